/- Plain lemmas on what Read tells, both sides: rows of ticks, bytes looked for, kinds of bytes, schemes, blanks, words, entities, mail, places. Conditions: sizes of texts, as each theorem names. -/
import Derived.Test.YtodgioleaegpfaaDoorHandE
import Derived.Test.YtodgioleaegpfaaDoorQmB
import Derived.Test.YtodgioleaegpfaaDoorQ11
import Derived.Test.YtodgioleaegpfaaDoorQ13
import Derived.Test.YtodgioleaegpfaaDoorQ12
import Derived.Lib.CountLaws
import Derived.Test.YtodgioleaegpfaaDoorQ14
/- Plain lemmas: a row of ticks that closes, as the program and as the document finds it. Conditions: the text's size. -/
namespace Go.Proofs.YtodgioleaegpfaaDoor.Pure
open Go.RowKit Go.Proofs.YtodgioleaegpfaaDoor.P Go.Proofs.YtodgioleaegpfaaDoorW.PrintWords Go.Proofs.YtodgioleaegpfaaDoorW.PrintLast Go.Proofs.YtodgioleaegpfaaDoorW.PrintMore
set_option linter.unusedVariables false
set_option linter.unusedSimpArgs false
theorem ev_pos {α : Type} {c : Prop} [Decidable c] {f g : Nat → Option α} {r : α} (h : c) (k : Ev f r) : Ev (fun n => if c then f n else g n) r :=
  Ev.congr (fun n => by rw [if_pos h]) k
theorem ev_neg {α : Type} {c : Prop} [Decidable c] {f g : Nat → Option α} {r : α} (h : ¬ c) (k : Ev g r) : Ev (fun n => if c then f n else g n) r :=
  Ev.congr (fun n => by rw [if_neg h]) k
theorem far_shift {q q' : Nat → Bool} {m lo a : Nat} (h : ∀ k, lo ≤ k → k < lo + m → q k = q' (a + k)) : a + far q m lo = far q' m (a + lo) := by
  obtain ⟨a1, a2, a3, a4⟩ := far_prop (q := q) m lo
  exact (far_eq (by omega) (by omega) (fun k k1 k2 => by have := h (k - a) (by omega) (by omega); rw [show a + (k - a) = k by omega] at this; rw [← this]; exact a3 _ (by omega) (by omega)) (fun hl => by rw [← h _ (by omega) (by omega)]; exact a4 (by omega))).symm
/-- Where the row of ticks at i ends. -/
def tk (s : ByteArray) (i : Nat) : Nat := far (fun j => bt s (j : Int) == 96) (s.size - i) i
theorem tk_prop (s : ByteArray) (i : Nat) (h : i ≤ s.size) : i ≤ tk s i ∧ tk s i ≤ s.size ∧ (∀ k, i ≤ k → k < tk s i → bt s (k : Int) = 96) ∧ (tk s i < s.size → bt s ((tk s i : Nat) : Int) ≠ 96) := by
  obtain ⟨a1, a2, a3, a4⟩ := far_prop (q := fun j => bt s (j : Int) == 96) (s.size - i) i
  exact ⟨a1, by unfold tk; omega, fun k h1 h2 => by simpa using a3 k h1 h2, fun h1 => by have := a4 (by unfold tk at h1; omega); exact fun e => by rw [show (bt s ((far (fun j => bt s (j : Int) == 96) (s.size - i) i : Nat) : Int) == 96) = true from beq_iff_eq.2 e] at this; cases this⟩
theorem accents_cut (s : ByteArray) (i : Nat) (h : i ≤ s.size) (hs : s.size ≤ 4294967296) : mdcode_accents.f (s.extract i s.size) = some ((tk s i - i : Nat) : Int) := by
  have hz := size_ext s i s.size (Nat.le_refl _)
  unfold mdcode_accents.f
  rw [count_val 44 _ rfl (by omega), Option.bind_some]
  unfold cnt
  rw [hz]
  have e : i + far (fun k => pred 44 (bt (s.extract i s.size) (k : Int))) (s.size - i) 0 = far (fun j => bt s (j : Int) == 96) (s.size - i) (i + 0) :=
    far_shift fun k h1 h2 => by rw [bt_ext s i s.size k (Nat.le_refl _) (by omega)]; rfl
  rw [Nat.add_zero] at e
  unfold tk
  rw [← e]
  congr 2
  omega
/-- Where a row of n ticks ends that closes one, from i on; 0: none. -/
def cdN (s : ByteArray) (n : Nat) : Nat → Nat → Nat
  | 0, i => 0
  | m + 1, i => if i < s.size then (if tk s i - i = n then i + n else cdN s n m (max (tk s i) (i + 1))) else 0
theorem code_p (s : ByteArray) (n : Nat) (hs : s.size ≤ 4294967296) (hn : n ≤ s.size) : ∀ (m i : Nat), s.size ≤ i + m → i ≤ s.size → Ev (fun k => mdcode_code.l0 k s (n : Int) (i : Int)) ((cdN s n m i : Nat) : Int)
  | 0, i, hm, hi => by
    refine Ev.step (fun k => by rw [mdcode_code.l0]) ?_
    exact ev_neg (by omega) (Ev.now _)
  | m + 1, i, hm, hi => by
    refine Ev.step (fun k => by rw [mdcode_code.l0]) ?_
    unfold cdN
    by_cases h : i < s.size
    · rw [if_pos h]
      obtain ⟨t1, t2, -, -⟩ := tk_prop s i hi
      refine ev_pos (by omega) (ev_pos (by omega) (ev_pos (by omega) ?_))
      rw [Int.toNat_natCast, accents_cut s i hi hs]
      refine Ev.bind (Ev.now _) ?_
      by_cases e : tk s i - i = n
      · rw [if_pos e]
        refine ev_pos (by omega) ?_
        rw [w64 (by omega) (by omega)]
        exact Ev.now _
      · rw [if_neg e]
        refine ev_neg (by omega) ?_
        have e1 : wrap64 ((i : Int) + mx ((tk s i - i : Nat) : Int) 1) = ((max (tk s i) (i + 1) : Nat) : Int) := by
          rw [show mx ((tk s i - i : Nat) : Int) 1 = ((max (tk s i - i) 1 : Nat) : Int) by unfold mx; split <;> omega, w64 (by omega) (by omega)]
          omega
        rw [e1]
        exact code_p s n hs hn m _ (by omega) (by omega)
    · rw [if_neg h]
      exact ev_neg (by omega) (Ev.now _)
/-- The document's: on the line, from a to a + s.size. -/
structure Cut (line s : ByteArray) (a : Nat) : Prop where
  size : a + s.size ≤ line.size
  bt : ∀ i : Nat, i < s.size → bt line ((a + i : Nat) : Int) = bt s (i : Int)
theorem row_r (line s : ByteArray) (a : Nat) (hc : Cut line s a) (hs : line.size ≤ 4294967296) : ∀ (m i : Nat), s.size ≤ i + m → i ≤ s.size → Ev (fun k => indentureref20_row.l0 k line ((a + i : Nat) : Int) ((a + s.size : Nat) : Int)) ((a + tk s i : Nat) : Int)
  | 0, i, hm, hi => by
    have hz := hc.size
    obtain ⟨t1, t2, -, -⟩ := tk_prop s i hi
    refine Ev.step (fun k => by rw [indentureref20_row.l0]) ?_
    refine ev_neg (by omega) ?_
    rw [show tk s i = i by omega]
    exact Ev.now _
  | m + 1, i, hm, hi => by
    have hz := hc.size
    obtain ⟨t1, t2, t3, t4⟩ := tk_prop s i hi
    refine Ev.step (fun k => by rw [indentureref20_row.l0]) ?_
    by_cases h : i < s.size
    · refine ev_pos (by omega) (ev_pos (by omega) (ev_pos (by omega) ?_))
      rw [hc.bt i h]
      by_cases h96 : bt s (i : Int) = 96
      · refine ev_pos h96 ?_
        rw [w64 (by omega) (by omega), show ((a + i : Nat) : Int) + 1 = ((a + (i + 1) : Nat) : Int) by omega]
        have hne : tk s i ≠ i := fun e => by
          have := t4 (by omega)
          rw [e] at this
          exact this h96
        have e : tk s i = tk s (i + 1) := by
          obtain ⟨u1, u2, u3, u4⟩ := tk_prop s (i + 1) (by omega)
          rcases Nat.lt_trichotomy (tk s i) (tk s (i + 1)) with hlt | heq | hgt
          · exact absurd (u3 _ (by omega) hlt) (t4 (by omega))
          · exact heq
          · exact absurd (t3 _ (by omega) hgt) (u4 (by omega))
        rw [e]
        exact row_r line s a hc hs m (i + 1) (by omega) (by omega)
      · refine ev_neg h96 ?_
        have : tk s i = i := by
          by_cases e : i < tk s i
          · exact absurd (t3 i (Nat.le_refl _) e) h96
          · omega
        rw [this]
        exact Ev.now _
    · refine ev_neg (by omega) ?_
      rw [show tk s i = i by omega]
      exact Ev.now _
theorem code_r (line s : ByteArray) (a n : Nat) (hc : Cut line s a) (hs : line.size ≤ 4294967296) (hn : 1 ≤ n) (hn2 : n ≤ s.size) : ∀ (m i : Nat), s.size ≤ i + m → i ≤ s.size →
    Ev (fun k => indentureref20_code.l0 k line (a : Int) ((a + s.size : Nat) : Int) ((a + n : Nat) : Int) ((a + i : Nat) : Int)) (if cdN s n m i = 0 then 0 else ((a + cdN s n m i : Nat) : Int))
  | 0, i, hm, hi => by
    have hz := hc.size
    refine Ev.step (fun k => by rw [indentureref20_code.l0]) ?_
    exact ev_neg (by omega) (Ev.now _)
  | m + 1, i, hm, hi => by
    have hz := hc.size
    obtain ⟨t1, t2, t3, t4⟩ := tk_prop s i hi
    refine Ev.step (fun k => by rw [indentureref20_code.l0]) ?_
    unfold cdN
    by_cases h : i < s.size
    · rw [if_pos h]
      refine ev_pos (by omega) (ev_pos (by omega) (ev_pos (by omega) ?_))
      rw [hc.bt i h]
      by_cases h96 : bt s (i : Int) = 96
      · refine ev_pos h96 ?_
        have hne : tk s i ≠ i := fun e => by
          have := t4 (by omega)
          rw [e] at this
          exact this h96
        refine Ev.bind (row_r line s a hc hs (s.size - i) i (by omega) hi) ?_
        rw [w64 (x := ((a + tk s i : Nat) : Int) - ((a + i : Nat) : Int)) (by omega) (by omega), w64 (by omega) (by omega)]
        by_cases e : tk s i - i = n
        · rw [if_pos e, if_neg (by omega)]
          refine ev_pos (by omega) ?_
          rw [show i + n = tk s i by omega]
          exact Ev.now _
        · rw [if_neg e]
          refine ev_neg (by omega) ?_
          rw [show max (tk s i) (i + 1) = tk s i by omega]
          exact code_r line s a n hc hs hn hn2 m _ (by omega) t2
      · refine ev_neg h96 ?_
        have hti : tk s i = i := by
          by_cases e : i < tk s i
          · exact absurd (t3 i (Nat.le_refl _) e) h96
          · omega
        rw [if_neg (show ¬ tk s i - i = n by omega), show max (tk s i) (i + 1) = i + 1 by omega, w64 (by omega) (by omega), show ((a + i : Nat) : Int) + 1 = ((a + (i + 1) : Nat) : Int) by omega]
        exact code_r line s a n hc hs hn hn2 m (i + 1) (by omega) (by omega)
    · rw [if_neg h]
      exact ev_neg (by omega) (Ev.now _)
end Go.Proofs.YtodgioleaegpfaaDoor.Pure
/- Plain lemmas: finding a byte, a byte among some, as the document does it. Conditions: the text's size. -/
namespace Go.Proofs.YtodgioleaegpfaaDoor.Pure
open Go.RowKit Go.Proofs.YtodgioleaegpfaaDoor.P Go.Proofs.YtodgioleaegpfaaDoorW.PrintWords Go.Proofs.YtodgioleaegpfaaDoorW.PrintLast Go.Proofs.YtodgioleaegpfaaDoorW.PrintMore
set_option linter.unusedVariables false
set_option linter.unusedSimpArgs false
/-- Where a byte stands first, from i on; or -1. -/
def fi (s : ByteArray) (c : Int) (i : Nat) : Int :=
  match fst (fun j => bt s (j : Int) == c) (s.size - i) i with
  | some j => (j : Int)
  | none => -1
theorem fi_here (s : ByteArray) (c : Int) (i : Nat) (h : i < s.size) (hc : bt s (i : Int) = c) : fi s c i = (i : Int) := by
  unfold fi
  rw [fst_eq (j := i) (Nat.le_refl _) (by omega) (by simpa using hc) (fun k h1 h2 => by omega)]
theorem fi_next (s : ByteArray) (c : Int) (i : Nat) (h : i < s.size) (hc : bt s (i : Int) ≠ c) : fi s c i = fi s c (i + 1) := by
  unfold fi
  have : fst (fun j => bt s (j : Int) == c) (s.size - i) i = fst (fun j => bt s (j : Int) == c) (s.size - (i + 1)) (i + 1) := by
    cases e : fst (fun j => bt s (j : Int) == c) (s.size - (i + 1)) (i + 1) with
    | some j =>
      obtain ⟨a1, a2, a3, a4⟩ := fst_some e
      refine fst_eq (by omega) (by omega) a3 (fun k h1 h2 => ?_)
      by_cases hk : k = i
      · rw [hk]; exact beq_eq_false_iff_ne.2 hc
      · exact a4 k (by omega) h2
    | none =>
      refine fst_no fun k h1 h2 => ?_
      by_cases hk : k = i
      · rw [hk]; exact beq_eq_false_iff_ne.2 hc
      · exact fst_none e k (by omega) (by omega)
  rw [this]
theorem fi_end (s : ByteArray) (c : Int) (i : Nat) (h : s.size ≤ i) : fi s c i = -1 := by
  unfold fi
  rw [fst_no fun k h1 h2 => by omega]
theorem find_r (s : ByteArray) (c : Int) (hs : s.size ≤ 4294967296) : ∀ (m i : Nat), s.size ≤ i + m → Ev (fun k => indentureref20_find.l0 k s (s.size : Int) c (i : Int)) (fi s c i)
  | 0, i, hm => by
    refine Ev.step (fun k => by rw [indentureref20_find.l0]) ?_
    rw [fi_end s c i (by omega)]
    exact ev_neg (by omega) (Ev.now _)
  | m + 1, i, hm => by
    refine Ev.step (fun k => by rw [indentureref20_find.l0]) ?_
    by_cases h : i < s.size
    · refine ev_pos (by omega) (ev_pos (by omega) (ev_pos (by omega) ?_))
      by_cases hc : bt s (i : Int) = c
      · rw [fi_here s c i h hc]
        exact ev_pos hc (Ev.now _)
      · rw [fi_next s c i h hc]
        refine ev_neg hc ?_
        rw [w64 (by omega) (by omega), show (i : Int) + 1 = ((i + 1 : Nat) : Int) by omega]
        exact find_r s c hs m (i + 1) (by omega)
    · rw [fi_end s c i (by omega)]
      exact ev_neg (by omega) (Ev.now _)
theorem in_r (s : ByteArray) (c : Int) (hs : s.size ≤ 4294967296) : ∀ (m i : Nat), s.size ≤ i + m → Ev (fun k => indentureref20_in.l0 k c s (i : Int)) (decide (0 ≤ fi s c i))
  | 0, i, hm => by
    refine Ev.step (fun k => by rw [indentureref20_in.l0]) ?_
    rw [fi_end s c i (by omega)]
    exact ev_neg (by omega) (Ev.now _)
  | m + 1, i, hm => by
    refine Ev.step (fun k => by rw [indentureref20_in.l0]) ?_
    by_cases h : i < s.size
    · refine ev_pos (by omega) (ev_pos (by omega) ?_)
      by_cases hc : bt s (i : Int) = c
      · rw [fi_here s c i h hc, decide_eq_true (by omega)]
        exact ev_pos hc (Ev.now _)
      · rw [fi_next s c i h hc]
        refine ev_neg hc ?_
        rw [w64 (by omega) (by omega), show (i : Int) + 1 = ((i + 1 : Nat) : Int) by omega]
        exact in_r s c hs m (i + 1) (by omega)
    · rw [fi_end s c i (by omega)]
      exact ev_neg (by omega) (Ev.now _)
theorem idx_fi (s : ByteArray) (c : UInt8) : Lib.indexByte s.data.toList c = fi s (c.toNat : Int) 0 := by
  unfold fi
  rcases index_cases s c with h | ⟨o, h⟩
  · rw [fst_no fun k h1 h2 => beq_eq_false_iff_ne.2 (index_none h k (by omega)), h]
  · obtain ⟨a1, a2, a3⟩ := index_some h
    rw [fst_eq (q := fun j => bt s (j : Int) == (c.toNat : Int)) (m := s.size - 0) (i := 0) (j := o) (Nat.zero_le _) (by omega) (beq_iff_eq.2 a2) (fun k _ hk => beq_eq_false_iff_ne.2 (a3 k hk)), h]
theorem fi_cases (s : ByteArray) (c : Int) : (fi s c 0 = -1 ∧ ∀ k : Nat, k < s.size → bt s (k : Int) ≠ c) ∨ ∃ o : Nat, fi s c 0 = (o : Int) ∧ o < s.size ∧ bt s (o : Int) = c ∧ ∀ k : Nat, k < o → bt s (k : Int) ≠ c := by
  unfold fi
  cases h : fst (fun j => bt s (j : Int) == c) (s.size - 0) 0 with
  | none => exact .inl ⟨rfl, fun k hk => by have := fst_none h k (Nat.zero_le _) (by omega); simpa using this⟩
  | some o =>
    obtain ⟨a1, a2, a3, a4⟩ := fst_some h
    exact .inr ⟨o, rfl, by omega, by simpa using a3, fun k hk => by have := a4 k (Nat.zero_le _) hk; simpa using this⟩
/-! ### kinds of bytes, both sides -/
def letB (c : Int) : Bool := decide (97 ≤ c ∧ c ≤ 122) || decide (65 ≤ c ∧ c ≤ 90)
def digB (c : Int) : Bool := decide (48 ≤ c ∧ c ≤ 57)
theorem letter_p (c : Int) : mdcode_letter.f c = some (letB c) := by
  unfold mdcode_letter.f letB
  repeat' split
  all_goals first
    | (congr 1; rw [eq_comm, Bool.or_eq_true, decide_eq_true_eq, decide_eq_true_eq]; omega)
    | (congr 1; rw [eq_comm, Bool.or_eq_false_iff, decide_eq_false_iff_not, decide_eq_false_iff_not]; omega)
    | (congr 1; rw [decide_eq_false (p := 97 ≤ c ∧ c ≤ 122) (by omega), Bool.false_or]; exact decide_eq_decide.2 (by omega))
theorem digit_p (c : Int) : mdcode_digit.f c = some (digB c) := by
  unfold mdcode_digit.f digB
  split
  · congr 1; exact decide_eq_decide.2 (by omega)
  · congr 1; exact (decide_eq_false (by omega)).symm
theorem letter_r (c : Int) : indentureref20_letter.f c = some (letB c) := letter_p c
theorem digit_r (c : Int) : indentureref20_digit.f c = some (digB c) := digit_p c
end Go.Proofs.YtodgioleaegpfaaDoor.Pure
/- Plain lemmas: the kinds of bytes that the program counts. Conditions: a byte's bounds. -/
namespace Go.Proofs.YtodgioleaegpfaaDoor.Pure
open Go.RowKit Go.Proofs.YtodgioleaegpfaaDoor.P Go.Proofs.YtodgioleaegpfaaDoorW.PrintWords Go.Proofs.YtodgioleaegpfaaDoorW.PrintLast Go.Proofs.YtodgioleaegpfaaDoorW.PrintMore
set_option linter.unusedVariables false
set_option linter.unusedSimpArgs false
theorem idx_in (L : ByteArray) (c : Int) (h : 0 ≤ c ∧ c ≤ 255) : strings_IndexByte.f L c = some (fi L c 0) := by
  unfold strings_IndexByte.f
  rw [idx_fi]
  congr 2
  have : (c.toNat.toUInt8).toNat = c.toNat := by
    rw [Nat.toUInt8_eq, UInt8.toNat_ofNat']
    omega
  rw [this]
  omega
def L47 : ByteArray := ⟨#[43, 46, 45]⟩
def L50 : ByteArray := ⟨#[46, 33, 35, 36, 37, 38, 39, 42, 43, 47, 61, 63, 94, 95, 123, 124, 125, 126, 45]⟩
def okH (c : Int) : Bool := letB c || digB c || decide (0 ≤ fi L47 c 0)
def okR (c : Int) : Bool := decide (32 < c) && decide (c ≠ 60) && decide (c ≠ 127)
def okW (c : Int) : Bool := letB c || digB c || decide (c = 96) || decide (0 ≤ fi L50 c 0)
def okN (c : Int) : Bool := letB c || digB c || decide (c = 45)
theorem pred44 (c : Int) : pred 44 c = decide (c = 96) := by
  show (some (c == 96)).getD false = _
  by_cases h : c = 96
  · rw [h]; rfl
  · rw [decide_eq_false h]; exact beq_eq_false_iff_ne.2 h
theorem pred47 (c : Int) (h : 0 ≤ c ∧ c ≤ 255) : pred 47 c = okH c := by
  show (mdcode_scheme_1.f c).getD false = _
  unfold mdcode_scheme_1.f okH
  rw [letter_p, digit_p, show (⟨#[43, 46, 45]⟩ : ByteArray) = L47 from rfl, idx_in L47 c h]
  cases letB c <;> cases digB c <;> rfl
theorem pred48 (c : Int) : pred 48 c = digB c := by
  show (mdcode_digit.f c).getD false = _
  rw [digit_p]; rfl
theorem pred49 (c : Int) : pred 49 c = okR c := by
  show (mdcode_scheme_2.f c).getD false = _
  unfold mdcode_scheme_2.f okR
  by_cases h1 : c > 32
  · rw [if_pos h1, decide_eq_true (show 32 < c from h1)]
    by_cases h2 : c = 60
    · rw [if_pos h2, decide_eq_false (fun h => h h2)]; rfl
    · rw [if_neg h2, decide_eq_true h2]
      by_cases h3 : c = 127
      · rw [h3]; rfl
      · rw [decide_eq_true h3]; exact bne_iff_ne.2 h3
  · rw [if_neg h1, decide_eq_false (show ¬ 32 < c from h1)]; rfl
theorem pred50 (c : Int) (h : 0 ≤ c ∧ c ≤ 255) : pred 50 c = okW c := by
  show (mdcode_mail_1.f c).getD false = _
  unfold mdcode_mail_1.f okW
  rw [letter_p, digit_p, show (⟨#[46, 33, 35, 36, 37, 38, 39, 42, 43, 47, 61, 63, 94, 95, 123, 124, 125, 126, 45]⟩ : ByteArray) = L50 from rfl, idx_in L50 c h]
  by_cases h96 : c = 96
  · rw [if_pos h96, decide_eq_true h96]; cases letB c <;> cases digB c <;> rfl
  · rw [if_neg h96, decide_eq_false h96]; cases letB c <;> cases digB c <;> rfl
theorem pred52 (c : Int) : pred 52 c = okN c := by
  show (mdcode_mail_2.f c).getD false = _
  unfold mdcode_mail_2.f okN
  rw [letter_p, digit_p]
  have : (c == 45) = decide (c = 45) := by
    by_cases h : c = 45
    · rw [h]; rfl
    · rw [decide_eq_false h]; exact beq_eq_false_iff_ne.2 h
  cases letB c <;> cases digB c <;> first | rfl | exact this
/-- All of a text is of a kind. -/
theorem cnt_all (g : Nat) (s : ByteArray) : cnt g s = s.size ↔ ∀ k : Nat, k < s.size → pred g (bt s (k : Int)) = true := by
  obtain ⟨a1, a2, a3, a4⟩ := far_prop (q := fun i => pred g (bt s (i : Int))) s.size 0
  unfold cnt
  constructor
  · intro h k hk
    exact a3 k (Nat.zero_le _) (by omega)
  · intro h
    by_cases hl : far (fun i => pred g (bt s (i : Int))) s.size 0 < s.size
    · have := a4 (by omega)
      rw [h _ hl] at this
      cases this
    · omega
end Go.Proofs.YtodgioleaegpfaaDoor.Pure
/- Plain lemmas: an address by its scheme, as the program reads it and as the document does. Conditions: the text's size; for the document: no '>' in it. -/
namespace Go.Proofs.YtodgioleaegpfaaDoor.Pure
open Go.RowKit Go.Proofs.YtodgioleaegpfaaDoor.P Go.Proofs.YtodgioleaegpfaaDoorW.PrintWords Go.Proofs.YtodgioleaegpfaaDoorW.PrintLast Go.Proofs.YtodgioleaegpfaaDoorW.PrintMore
set_option linter.unusedVariables false
set_option linter.unusedSimpArgs false
theorem cut_val (s : ByteArray) (c : UInt8) (hs : s.size ≤ 4294967296) : strings_Cut.f s ⟨#[c]⟩ = if 0 ≤ fi s (c.toNat : Int) 0 then some (s.extract 0 (fi s (c.toNat : Int) 0).toNat, s.extract ((fi s (c.toNat : Int) 0).toNat + 1) s.size, true) else some (s, ⟨#[]⟩, false) := by
  have e : strings_Cut.f s ⟨#[c]⟩ = if s.size ≤ 140737488355328 then (if 0 ≤ Lib.indexByte s.data.toList c then some (s.extract 0 (Lib.indexByte s.data.toList c).toNat, s.extract ((Lib.indexByte s.data.toList c).toNat + 1) s.size, true) else some (s, ⟨#[]⟩, false)) else none := rfl
  rw [e, if_pos (by omega), idx_fi]
/-- A scheme of o bytes, and what is behind it. -/
def schP (s : ByteArray) (o : Nat) : Bool :=
  decide (2 ≤ o ∧ o ≤ 32) && letB (bt s 0) && decide (∀ i : Nat, i < o → okH (bt s (i : Int)) = true) && decide (∀ i : Nat, i < s.size → o < i → okR (bt s (i : Int)) = true)
def schS (s : ByteArray) : Bool := decide (0 ≤ fi s 58 0) && schP s (fi s 58 0).toNat
theorem scheme_p (s : ByteArray) (hs : s.size ≤ 4294967296) : Ev (fun k => mdcode_scheme.f k s) (schS s) := by
  have hc := cut_val s 58 hs
  rw [show ((58 : UInt8).toNat : Int) = 58 from rfl] at hc
  have no : ∀ (x y : ByteArray), Ev (fun k => mdcode_scheme.j0 k x y true) false := fun x y => by
    refine Ev.step (fun k => by rw [mdcode_scheme.j0]) ?_
    exact ev_pos rfl (Ev.now _)
  unfold mdcode_scheme.f
  rw [hc]
  unfold schS
  rcases fi_cases s 58 with ⟨h, -⟩ | ⟨o, h, ho, hat, hbef⟩
  · rw [h, if_neg (by omega)]
    refine Ev.bind (Ev.now _) (ev_neg (by simp) ?_)
    exact no _ _
  · rw [h, if_pos (by omega), Int.toNat_natCast, decide_eq_true (show (0 : Int) ≤ (o : Int) by omega), Bool.true_and]
    have z1 := size_ext s 0 o (by omega)
    have z2 := size_ext s (o + 1) s.size (Nat.le_refl _)
    have b1 : ∀ k : Nat, k < o → bt (s.extract 0 o) (k : Int) = bt s (k : Int) := fun k hk => by rw [bt_ext s 0 o k (by omega) (by omega), Nat.zero_add]
    have b2 : ∀ k : Nat, k < s.size - (o + 1) → bt (s.extract (o + 1) s.size) (k : Int) = bt s ((o + 1 + k : Nat) : Int) := fun k hk => bt_ext s (o + 1) s.size k (Nat.le_refl _) hk
    refine Ev.bind (Ev.now _) (ev_pos rfl ?_)
    dsimp only
    unfold schP
    by_cases h2 : o < 2
    · refine ev_pos (by rw [z1]; omega) ?_
      rw [decide_eq_false (p := 2 ≤ o ∧ o ≤ 32) (by omega)]
      exact no _ _
    refine ev_neg (by rw [z1]; omega) ?_
    by_cases h32 : o > 32
    · refine ev_pos (by rw [z1]; omega) ?_
      rw [decide_eq_false (p := 2 ≤ o ∧ o ≤ 32) (by omega)]
      exact no _ _
    refine ev_neg (by rw [z1]; omega) (ev_pos (by rw [z1]; omega) ?_)
    rw [decide_eq_true (p := 2 ≤ o ∧ o ≤ 32) (by omega), Bool.true_and, letter_p]
    refine Ev.bind (Ev.now _) ?_
    have e0 : bt (s.extract 0 o) 0 = bt s 0 := b1 0 (by omega)
    rw [e0]
    refine Ev.step (fun k => by rw [mdcode_scheme.j0]) ?_
    cases hl : letB (bt s 0) with
    | false => exact ev_pos rfl (Ev.now _)
    | true =>
      refine ev_neg (by simp) ?_
      rw [count_val 47 _ rfl (by omega), count_val 49 _ rfl (by omega)]
      refine Ev.bind (Ev.now _) ?_
      have c1 : cnt 47 (s.extract 0 o) = (s.extract 0 o).size ↔ ∀ i : Nat, i < o → okH (bt s (i : Int)) = true := by
        rw [cnt_all, z1, Nat.sub_zero]
        exact ⟨fun h i hi => by have := h i hi; rwa [b1 i hi, pred47 _ (bt_range s _)] at this, fun h i hi => by rw [b1 i hi, pred47 _ (bt_range s _)]; exact h i hi⟩
      have c2 : cnt 49 (s.extract (o + 1) s.size) = (s.extract (o + 1) s.size).size ↔ ∀ i : Nat, i < s.size → o < i → okR (bt s (i : Int)) = true := by
        rw [cnt_all, z2]
        refine ⟨fun h i hi ho => ?_, fun h i hi => ?_⟩
        · have := h (i - (o + 1)) (by omega)
          rwa [b2 _ (by omega), pred49, show o + 1 + (i - (o + 1)) = i by omega] at this
        · rw [b2 i hi, pred49]; exact h _ (by omega) (by omega)
      by_cases p1 : cnt 47 (s.extract 0 o) = (s.extract 0 o).size
      · refine ev_pos (by rw [p1]) (Ev.bind (Ev.now _) ?_)
        rw [decide_eq_true (c1.1 p1), cnt_eq, Bool.true_and, Bool.true_and, decide_eq_decide.2 c2]
        exact Ev.now _
      · refine ev_neg (by omega) ?_
        rw [decide_eq_false (fun h => p1 (c1.2 h))]
        exact Ev.now _
/-- From i on. -/
def schL (s : ByteArray) (o i : Nat) : Bool := decide ((∀ j : Nat, j < o → i ≤ j → okH (bt s (j : Int)) = true) ∧ (∀ j : Nat, j < s.size → o < j ∧ i ≤ j → okR (bt s (j : Int)) = true))
theorem schL_end (s : ByteArray) (o i : Nat) (ho : o < s.size) (hi : s.size ≤ i) : schL s o i = true := decide_eq_true ⟨fun j h1 h2 => by omega, fun j h1 h2 => by omega⟩
theorem schL_no (s : ByteArray) (o i : Nat) (h : (i < o ∧ okH (bt s (i : Int)) = false) ∨ (o < i ∧ i < s.size ∧ okR (bt s (i : Int)) = false)) : schL s o i = false := by
  refine decide_eq_false fun hh => ?_
  rcases h with ⟨h1, h2⟩ | ⟨h1, h2, h3⟩
  · have := hh.1 i h1 (Nat.le_refl _)
    rw [h2] at this; cases this
  · have := hh.2 i h2 ⟨h1, Nat.le_refl _⟩
    rw [h3] at this; cases this
theorem schL_yes (s : ByteArray) (o i : Nat) (h1 : i < o → okH (bt s (i : Int)) = true) (h2 : o < i → okR (bt s (i : Int)) = true) : schL s o i = schL s o (i + 1) := by
  refine decide_eq_decide.2 ⟨fun h => ⟨fun j a b => h.1 j a (by omega), fun j a b => h.2 j a ⟨b.1, by omega⟩⟩, fun h => ⟨fun j a b => ?_, fun j a b => ?_⟩⟩
  · by_cases e : j = i
    · rw [e]; exact h1 (by omega)
    · exact h.1 j a (by omega)
  · by_cases e : j = i
    · rw [e]; exact h2 (by omega)
    · exact h.2 j a ⟨b.1, by omega⟩
theorem okR_false {c : Int} (h : c ≤ 32 ∨ c = 60 ∨ c = 127) : okR c = false := by
  unfold okR
  rcases h with h | h | h
  · rw [decide_eq_false (p := 32 < c) (by omega)]; rfl
  · rw [h]; rfl
  · rw [h]; rfl
theorem okR_true {c : Int} (h1 : ¬ c ≤ 32) (h2 : ¬ c = 60) (h3 : ¬ c = 127) : okR c = true := by
  unfold okR
  rw [decide_eq_true (p := 32 < c) (by omega), decide_eq_true h2, decide_eq_true h3]; rfl
theorem scheme_l (s : ByteArray) (o : Nat) (hs : s.size ≤ 4294967296) (ho : o < s.size) (hno : ∀ k : Nat, k < s.size → bt s (k : Int) ≠ 62) : ∀ (m i : Nat), s.size ≤ i + m → Ev (fun k => indentureref20_Scheme.l0 k s (o : Int) (i : Int)) (schL s o i)
  | 0, i, hm => by
    refine Ev.step (fun k => by rw [indentureref20_Scheme.l0]) ?_
    rw [schL_end s o i ho (by omega)]
    exact ev_neg (by omega) (Ev.now _)
  | m + 1, i, hm => by
    refine Ev.step (fun k => by rw [indentureref20_Scheme.l0]) ?_
    by_cases h : i < s.size
    rotate_left
    · rw [schL_end s o i ho (by omega)]
      exact ev_neg (by omega) (Ev.now _)
    refine ev_pos (by omega) (ev_pos (by omega) ?_)
    have ih := scheme_l s o hs ho hno m (i + 1) (by omega)
    have bad : Ev (fun k => indentureref20_Scheme.j2 k s (o : Int) (i : Int) (bt s (i : Int)) true) false := by
      refine Ev.step (fun k => by rw [indentureref20_Scheme.j2]) ?_
      exact ev_pos rfl (Ev.now _)
    have good : (i < o → okH (bt s (i : Int)) = true) → Ev (fun k => indentureref20_Scheme.j2 k s (o : Int) (i : Int) (bt s (i : Int)) false) (schL s o i) := by
      intro hH
      refine Ev.step (fun k => by rw [indentureref20_Scheme.j2]) ?_
      refine ev_neg (by simp) ?_
      have w : wrap64 ((i : Int) + 1) = ((i + 1 : Nat) : Int) := by rw [w64 (by omega) (by omega)]; omega
      by_cases hio : o < i
      · refine ev_pos (by omega) ?_
        by_cases q1 : bt s (i : Int) ≤ 32
        · rw [schL_no s o i (.inr ⟨hio, h, okR_false (.inl q1)⟩)]; exact ev_pos q1 (Ev.now _)
        refine ev_neg q1 ?_
        by_cases q2 : bt s (i : Int) = 60
        · rw [schL_no s o i (.inr ⟨hio, h, okR_false (.inr (.inl q2))⟩)]; exact ev_pos q2 (Ev.now _)
        refine ev_neg q2 (ev_neg (hno i h) ?_)
        by_cases q3 : bt s (i : Int) = 127
        · rw [schL_no s o i (.inr ⟨hio, h, okR_false (.inr (.inr q3))⟩)]; exact ev_pos q3 (Ev.now _)
        refine ev_neg q3 ?_
        rw [w, schL_yes s o i hH (fun _ => okR_true q1 q2 q3)]
        exact ih
      · refine ev_neg (by omega) ?_
        rw [w, schL_yes s o i hH (fun h => absurd h hio)]
        exact ih
    by_cases hio : i < o
    · refine ev_pos (by omega) ?_
      rw [letter_r, digit_r]
      refine Ev.bind (Ev.now _) ?_
      cases hl : letB (bt s (i : Int)) with
      | true => exact ev_pos rfl (good fun _ => by unfold okH; rw [hl]; rfl)
      | false =>
        refine ev_neg (by simp) (Ev.bind (Ev.now _) ?_)
        cases hd : digB (bt s (i : Int)) with
        | true => exact ev_pos rfl (good fun _ => by unfold okH; rw [hl, hd]; rfl)
        | false =>
          refine ev_neg (by simp) ?_
          refine Ev.bind (in_r L47 (bt s (i : Int)) (by decide) 3 0 (by decide)) ?_
          cases hi : decide (0 ≤ fi L47 (bt s (i : Int)) 0) with
          | true => exact good fun _ => by unfold okH; rw [hl, hd, hi]; rfl
          | false =>
            rw [schL_no s o i (.inl ⟨hio, by unfold okH; rw [hl, hd, hi]; rfl⟩)]
            exact bad
    · exact ev_neg (by omega) (good fun h => absurd h hio)
theorem scheme_r (s : ByteArray) (hs : s.size ≤ 4294967296) (hno : ∀ k : Nat, k < s.size → bt s (k : Int) ≠ 62) : Ev (fun k => indentureref20_Scheme.f k s) (schS s) := by
  have no : ∀ x : Int, Ev (fun k => indentureref20_Scheme.j0 k s x true) false := fun x => by
    refine Ev.step (fun k => by rw [indentureref20_Scheme.j0]) ?_
    exact ev_pos rfl (Ev.now _)
  unfold indentureref20_Scheme.f
  refine Ev.bind (find_r s 58 hs s.size 0 (by omega)) ?_
  unfold schS
  rcases fi_cases s 58 with ⟨h, -⟩ | ⟨o, h, ho, hat, hbef⟩
  · rw [h]
    exact ev_pos (by omega) (no _)
  · rw [h, Int.toNat_natCast, decide_eq_true (show (0 : Int) ≤ (o : Int) by omega), Bool.true_and]
    unfold schP
    by_cases h2 : o < 2
    · refine ev_pos (by omega) ?_
      rw [decide_eq_false (p := 2 ≤ o ∧ o ≤ 32) (by omega)]
      exact no _
    refine ev_neg (by omega) ?_
    by_cases h32 : o > 32
    · refine ev_pos (by omega) ?_
      rw [decide_eq_false (p := 2 ≤ o ∧ o ≤ 32) (by omega)]
      exact no _
    refine ev_neg (by omega) (ev_pos (by omega) ?_)
    rw [decide_eq_true (p := 2 ≤ o ∧ o ≤ 32) (by omega), Bool.true_and, letter_r]
    refine Ev.bind (Ev.now _) ?_
    refine Ev.step (fun k => by rw [indentureref20_Scheme.j0]) ?_
    cases hl : letB (bt s 0) with
    | false => exact ev_pos rfl (Ev.now _)
    | true =>
      refine ev_neg (by simp) ?_
      have e : schL s o 1 = (true && decide (∀ i : Nat, i < o → okH (bt s (i : Int)) = true) && decide (∀ i : Nat, i < s.size → o < i → okR (bt s (i : Int)) = true)) := by
        rw [Bool.true_and, ← Bool.decide_and]
        refine decide_eq_decide.2 ⟨fun h => ⟨fun j hj => ?_, fun j hj hoj => h.2 j hj ⟨hoj, by omega⟩⟩, fun h => ⟨fun j hj _ => h.1 j hj, fun j hj hh => h.2 j hj hh.1⟩⟩
        by_cases e0 : j = 0
        · rw [e0]
          unfold okH
          rw [show bt s ((0 : Nat) : Int) = bt s 0 from rfl, hl]; rfl
        · exact h.1 j hj (by omega)
      rw [← e]
      exact scheme_l s o hs ho hno s.size 1 (by omega)
end Go.Proofs.YtodgioleaegpfaaDoor.Pure
/- Plain lemmas: blanks alone. Conditions: the text's size. -/
namespace Go.Proofs.YtodgioleaegpfaaDoor.Pure
open Go.RowKit Go.Proofs.YtodgioleaegpfaaDoor.P Go.Proofs.YtodgioleaegpfaaDoorW.PrintWords Go.Proofs.YtodgioleaegpfaaDoorW.PrintLast Go.Proofs.YtodgioleaegpfaaDoorW.PrintMore
set_option linter.unusedVariables false
set_option linter.unusedSimpArgs false
theorem dropWhile_nil_iff (l : List UInt8) (c : UInt8) : l.dropWhile (· == c) = [] ↔ ∀ b ∈ l, b = c := by
  induction l with
  | nil => simp
  | cons a l ih =>
    by_cases h : a = c
    · subst h; simp [ih]
    · have : (a == c) = false := beq_eq_false_iff_ne.2 h
      simp [List.dropWhile_cons, this, h]
theorem trimB_nil (l : List UInt8) (c : UInt8) : Lib.trimB l c = [] ↔ ∀ b ∈ l, b = c := by
  unfold Lib.trimB Lib.trimLeftB Lib.trimRightB
  rw [dropWhile_nil_iff]
  constructor
  · intro h
    by_cases e : l.reverse.dropWhile (· == c) = []
    · rw [dropWhile_nil_iff] at e
      exact fun b hb => e b (List.mem_reverse.2 hb)
    · exfalso
      cases e2 : l.reverse.dropWhile (· == c) with
      | nil => exact e e2
      | cons a r =>
        have h1 : a = c := h a (by rw [e2]; simp)
        have h2 := List.head?_dropWhile_not (· == c) l.reverse
        rw [e2] at h2
        simp [h1] at h2
  · intro h b hb
    have : b ∈ l.reverse := (List.dropWhile_sublist _).mem (List.mem_reverse.1 hb)
    exact h b (List.mem_reverse.1 this)
theorem trim_val (s : ByteArray) (hs : s.size ≤ 4294967296) : ∃ tr, strings_Trim.f s ⟨#[32]⟩ = some tr ∧ (tr.size = 0 ↔ ∀ k : Nat, k < s.size → bt s (k : Int) = 32) := by
  refine ⟨_, if_pos ⟨by decide, by omega⟩, ?_⟩
  rw [← len_eq]
  show (Lib.trimB s.data.toList 32).length = 0 ↔ _
  rw [List.length_eq_zero_iff, trimB_nil]
  constructor
  · intro h k hk
    have hk2 : k < s.data.toList.length := by rw [len_eq]; exact hk
    rw [bt_list s k hk2, h _ (List.getElem_mem hk2)]
    rfl
  · intro h b hb
    obtain ⟨k, hk, rfl⟩ := List.mem_iff_getElem.1 hb
    have := h k (by rw [← len_eq]; exact hk)
    rw [bt_list s k hk] at this
    exact UInt8.toNat_inj.1 (show (s.data.toList[k]).toNat = 32 by omega)
end Go.Proofs.YtodgioleaegpfaaDoor.Pure
/- Plain lemmas: a word among names that stand between blanks. No conditions. -/
namespace Go.Proofs.YtodgioleaegpfaaDoor.Pure
open Go.RowKit Go.Proofs.YtodgioleaegpfaaDoor.P Go.Proofs.YtodgioleaegpfaaDoorW.PrintWords Go.Proofs.YtodgioleaegpfaaDoorW.PrintLast Go.Proofs.YtodgioleaegpfaaDoorW.PrintMore
set_option linter.unusedVariables false
set_option linter.unusedSimpArgs false
def wordsL : List (List UInt8) := [[97, 109, 112], [108, 116], [103, 116], [113, 117, 111, 116], [110, 98, 115, 112], [99, 111, 112, 121], [114, 101, 103], [104, 101, 108, 108, 105, 112], [109, 100, 97, 115, 104], [110, 100, 97, 115, 104]]
theorem namesL : namesB.data.toList = [32, 97, 109, 112, 32, 108, 116, 32, 103, 116, 32, 113, 117, 111, 116, 32, 110, 98, 115, 112, 32, 99, 111, 112, 121, 32, 114, 101, 103, 32, 104, 101, 108, 108, 105, 112, 32, 109, 100, 97, 115, 104, 32, 110, 100, 97, 115, 104, 32] := rfl
theorem takeWhile_word {l r : List UInt8} (h : ∀ b ∈ l, b ≠ 32) : (l ++ 32 :: r).takeWhile (· != 32) = l := by
  induction l with
  | nil => rfl
  | cons a l ih =>
    have ha : (a != 32) = true := bne_iff_ne.2 (h a (by simp))
    rw [List.cons_append, List.takeWhile_cons, if_pos ha, ih fun b hb => h b (by simp [hb])]
set_option maxRecDepth 100000 in
theorem names_at : ∀ i : Fin 49, (namesB.data.toList[i.val]? = some 32) → ((namesB.data.toList.drop (i.val + 1)).takeWhile (· != 32)) = [] ∨ ((namesB.data.toList.drop (i.val + 1)).takeWhile (· != 32)) ∈ wordsL := by decide
set_option maxRecDepth 100000 in
theorem words_in : ∀ w ∈ wordsL, Lib.contains namesB.data.toList (32 :: (w ++ [32])) = true := by decide
theorem word_of_occ {l r : List UInt8} {i : Nat} (hl : l ≠ []) (hb : ∀ b ∈ l, b ≠ 32) (h : namesB.data.toList.drop i = 32 :: (l ++ 32 :: r)) : l ∈ wordsL := by
  have hi : i < 49 := by
    by_cases h49 : i < 49
    · exact h49
    · have : namesB.data.toList.drop i = [] := List.drop_eq_nil_of_le (by show namesB.data.toList.length ≤ i; rw [show namesB.data.toList.length = 49 from rfl]; omega)
      rw [this] at h; cases h
  have h1 : namesB.data.toList[i]? = some 32 := by
    have := congrArg (fun x => x[0]?) h
    simpa [List.getElem?_drop] using this
  have h2 : namesB.data.toList.drop (i + 1) = l ++ 32 :: r := by
    rw [show i + 1 = i + 1 from rfl, ← List.drop_drop, h]; rfl
  have := names_at ⟨i, hi⟩ h1
  simp only at this
  rw [h2, takeWhile_word hb] at this
  rcases this with h | h
  · exact absurd h hl
  · exact h
theorem sp_list (s : ByteArray) : (((⟨#[32]⟩ : ByteArray) ++ s) ++ (⟨#[32]⟩ : ByteArray)).data.toList = 32 :: (s.data.toList ++ [32]) := by
  simp [ByteArray.data_append]
theorem contains_word (s : ByteArray) (hn : s.size ≠ 0) (hb : ∀ k : Nat, k < s.size → bt s (k : Int) ≠ 32) : Lib.contains namesB.data.toList (((⟨#[32]⟩ : ByteArray) ++ s) ++ (⟨#[32]⟩ : ByteArray)).data.toList = decide (s.data.toList ∈ wordsL) := by
  rw [sp_list]
  have hl : s.data.toList ≠ [] := fun e => hn (by rw [← len_eq, e]; rfl)
  have hb2 : ∀ b ∈ s.data.toList, b ≠ 32 := by
    intro b hb' e
    obtain ⟨k, hk, rfl⟩ := List.mem_iff_getElem.1 hb'
    have := hb k (by rw [← len_eq]; exact hk)
    rw [bt_list s k hk, e] at this
    exact this rfl
  by_cases h : s.data.toList ∈ wordsL
  · rw [decide_eq_true h]; exact words_in _ h
  · rw [decide_eq_false h]
    unfold Lib.contains
    refine decide_eq_false fun h0 => h ?_
    rcases Lib.index_spec namesB.data.toList (32 :: (s.data.toList ++ [32])) with ⟨h1, -⟩ | ⟨i, -, -, h3, -⟩
    · rw [h1] at h0; omega
    · unfold Lib.occAt at h3
      obtain ⟨r, hr⟩ := List.isPrefixOf_iff_prefix.1 h3
      refine word_of_occ (i := i) (r := r) hl hb2 ?_
      rw [← hr]
      simp
end Go.Proofs.YtodgioleaegpfaaDoor.Pure
/- Plain lemmas: an entity, as the document reads it and as the program does. Conditions: the text's size. -/
namespace Go.Proofs.YtodgioleaegpfaaDoor.Pure
open Go.RowKit Go.Proofs.YtodgioleaegpfaaDoor.P Go.Proofs.YtodgioleaegpfaaDoorW.PrintWords Go.Proofs.YtodgioleaegpfaaDoorW.PrintLast Go.Proofs.YtodgioleaegpfaaDoorW.PrintMore
set_option linter.unusedVariables false
set_option linter.unusedSimpArgs false
theorem pfx_iff (s : ByteArray) (c : UInt8) : pfx s c = true ↔ 0 < s.size ∧ bt s 0 = (c.toNat : Int) := by
  unfold pfx Lib.hasPrefix
  show ([c] : List UInt8).isPrefixOf s.data.toList = true ↔ _
  rw [← len_eq]
  cases e : s.data.toList with
  | nil => simp
  | cons a l =>
    have hb : bt s ((0 : Nat) : Int) = (a.toNat : Int) := by
      rw [bt_list s 0 (by rw [e]; simp)]
      simp [e]
    rw [show bt s 0 = bt s ((0 : Nat) : Int) from rfl, hb]
    constructor
    · intro h
      have : c = a := by simpa [List.isPrefixOf] using h
      rw [this]
      exact ⟨by simp, rfl⟩
    · intro h
      have : a = c := UInt8.toNat_inj.1 (by omega)
      simp [List.isPrefixOf, this]
theorem unhash_val (s : ByteArray) (h : pfx s 35 = true) : unhash s = s.extract 1 s.size := by
  unfold unhash Lib.trimPrefix
  unfold pfx at h
  rw [if_pos h]
  apply ext_list
  rw [extract_list]
  show s.data.toList.drop 1 = _
  rw [List.take_of_length_le]
  rw [List.length_drop, len_eq]
  exact Nat.le_refl _
def L56 : ByteArray := ⟨#[97, 98, 99, 100, 101, 102, 65, 66, 67, 68, 69, 70]⟩
def hexB (c : Int) : Bool := digB c || decide (97 ≤ c ∧ c ≤ 102) || decide (65 ≤ c ∧ c ≤ 70)
theorem pred56 (c : Int) : pred 56 c = hexB c := by
  show (mdcode_entity_1.f c).getD false = _
  unfold mdcode_entity_1.f hexB
  rw [digit_p]
  simp only [Option.bind_some]
  cases hd : digB c with
  | true => rfl
  | false =>
    rw [if_neg (by simp), Bool.false_or]
    by_cases h97 : c ≥ 97
    · rw [if_pos h97]
      by_cases h102 : c ≤ 102
      · rw [if_pos h102, decide_eq_true (p := 97 ≤ c ∧ c ≤ 102) ⟨h97, h102⟩]; rfl
      · rw [if_neg h102, decide_eq_false (p := 97 ≤ c ∧ c ≤ 102) (by omega), if_pos (by omega), Bool.false_or]
        exact decide_eq_decide.2 (by omega)
    · rw [if_neg h97, decide_eq_false (p := 97 ≤ c ∧ c ≤ 102) (by omega), Bool.false_or]
      by_cases h65 : c ≥ 65
      · rw [if_pos h65]; exact decide_eq_decide.2 (by omega)
      · rw [if_neg h65]; exact (decide_eq_false (by omega)).symm
theorem in56 (c : Int) (h : 0 ≤ c ∧ c ≤ 255) : decide (0 ≤ fi L56 c 0) = (decide (97 ≤ c ∧ c ≤ 102) || decide (65 ≤ c ∧ c ≤ 70)) := by
  have key : ∀ n : Fin 256, decide (0 ≤ fi L56 ((n.val : Nat) : Int) 0) = (decide (97 ≤ ((n.val : Nat) : Int) ∧ ((n.val : Nat) : Int) ≤ 102) || decide (65 ≤ ((n.val : Nat) : Int) ∧ ((n.val : Nat) : Int) ≤ 70)) := by decide +kernel
  have := key ⟨c.toNat, by omega⟩
  simpa [show ((c.toNat : Nat) : Int) = c by omega] using this
/-- The document's loop over the names. -/
theorem ent_l0 (s : ByteArray) (xs : List ByteArray) (r : Bool) (hx : xs.length ≤ 100) (hr : Ev (fun k => if (s.size : Int) < 2 then (indentureref20_Entity.j1 k s true) else (if 0 < (s.size : Int) then (indentureref20_Entity.j1 k s ((bt s 0) != 35)) else none)) r) :
    ∀ m i : Nat, xs.length ≤ i + m → Ev (fun k => indentureref20_Entity.l0 k s xs (i : Int)) ((xs.drop i).any (fun x => x.data.toList == s.data.toList) || r)
  | 0, i, hm => by
    refine Ev.step (fun k => by rw [indentureref20_Entity.l0]) ?_
    rw [List.drop_eq_nil_of_le (by omega)]
    exact ev_neg (by omega) hr
  | m + 1, i, hm => by
    refine Ev.step (fun k => by rw [indentureref20_Entity.l0]) ?_
    by_cases h : i < xs.length
    · refine ev_pos (by omega) (ev_pos (by omega) ?_)
      rw [List.drop_eq_getElem_cons h, List.any_cons]
      have e : rdOf ByteArray.empty xs (i : Int) = xs[i] := by
        unfold rdOf
        rw [Int.toNat_natCast, List.getD_eq_getElem?_getD, List.getElem?_eq_getElem h]; rfl
      rw [e, Lib.toList_data, Lib.toList_data]
      by_cases c : xs[i].data.toList = s.data.toList
      · rw [beq_iff_eq.2 c]
        exact ev_pos c (Ev.now _)
      · rw [beq_eq_false_iff_ne.2 c, Bool.false_or]
        refine ev_neg c ?_
        rw [w64 (by omega) (by omega), show (i : Int) + 1 = ((i + 1 : Nat) : Int) by omega]
        exact ent_l0 s xs r hx hr m (i + 1) (by omega)
    · rw [List.drop_eq_nil_of_le (by omega)]
      exact ev_neg (by omega) hr
def okE (hex : Bool) (c : Int) : Bool := digB c || (hex && (decide (97 ≤ c ∧ c ≤ 102) || decide (65 ≤ c ∧ c ≤ 70)))
def entL (s : ByteArray) (from_ : Nat) (hex : Bool) (most : Nat) (i : Nat) : Bool := decide (∀ j : Nat, j < s.size → i ≤ j → okE hex (bt s (j : Int)) = true) && decide (from_ < s.size ∧ s.size - from_ ≤ most)
theorem ent_l1 (s : ByteArray) (from_ : Nat) (hex : Bool) (most : Nat) (hs : s.size ≤ 4294967296) (hf : from_ ≤ 2) (hm7 : most ≤ 7) : ∀ m i : Nat, s.size ≤ i + m → Ev (fun k => indentureref20_Entity.l1 k s (from_ : Int) hex (most : Int) (i : Int)) (entL s from_ hex most i)
  | 0, i, hm => by
    refine Ev.step (fun k => by rw [indentureref20_Entity.l1]) ?_
    refine ev_neg (by omega) ?_
    unfold entL
    rw [decide_eq_true (p := ∀ j : Nat, j < s.size → i ≤ j → okE hex (bt s (j : Int)) = true) (fun j h1 h2 => by omega), Bool.true_and]
    by_cases c : from_ < s.size
    · refine ev_pos (by omega) ?_
      rw [w64 (by omega) (by omega), decide_eq_decide.2 (show (from_ < s.size ∧ s.size - from_ ≤ most) ↔ (s.size : Int) - (from_ : Int) ≤ (most : Int) by omega)]
      exact Ev.now _
    · rw [decide_eq_false (p := from_ < s.size ∧ s.size - from_ ≤ most) (by omega)]
      exact ev_neg (by omega) (Ev.now _)
  | m + 1, i, hm => by
    by_cases h : i < s.size
    rotate_left
    · exact ent_l1 s from_ hex most hs hf hm7 0 i (by omega)
    refine Ev.step (fun k => by rw [indentureref20_Entity.l1]) ?_
    have ih := ent_l1 s from_ hex most hs hf hm7 m (i + 1) (by omega)
    have yes : okE hex (bt s (i : Int)) = true → entL s from_ hex most i = entL s from_ hex most (i + 1) := by
      intro h1
      unfold entL
      congr 1
      refine decide_eq_decide.2 ⟨fun h j a b => h j a (by omega), fun h j a b => ?_⟩
      by_cases e : j = i
      · rw [e]; exact h1
      · exact h j a (by omega)
    have no : okE hex (bt s (i : Int)) = false → entL s from_ hex most i = false := by
      intro h1
      unfold entL
      rw [decide_eq_false (p := ∀ j : Nat, j < s.size → i ≤ j → okE hex (bt s (j : Int)) = true) (fun hh => by have := hh i h (Nat.le_refl _); rw [h1] at this; cases this)]
      rfl
    have w : wrap64 ((i : Int) + 1) = ((i + 1 : Nat) : Int) := by rw [w64 (by omega) (by omega)]; omega
    refine ev_pos (by omega) (ev_pos (by omega) ?_)
    rw [digit_r]
    refine Ev.bind (Ev.now _) ?_
    cases hd : digB (bt s (i : Int)) with
    | true =>
      refine ev_pos rfl ?_
      rw [w, yes (by unfold okE; rw [hd]; rfl)]
      exact ih
    | false =>
      refine ev_neg (by simp) ?_
      cases hex with
      | false =>
        rw [no (by unfold okE; rw [hd]; rfl)]
        exact ev_neg (by simp) (Ev.now _)
      | true =>
        refine ev_pos rfl ?_
        refine Ev.bind (in_r L56 (bt s (i : Int)) (by decide) 12 0 (by decide)) ?_
        rw [in56 _ (bt_range s _)]
        cases hh : (decide (97 ≤ bt s (i : Int) ∧ bt s (i : Int) ≤ 102) || decide (65 ≤ bt s (i : Int) ∧ bt s (i : Int) ≤ 70)) with
        | true =>
          refine ev_pos rfl ?_
          rw [w, yes (by unfold okE; rw [hd, hh]; rfl)]
          exact ih
        | false =>
          rw [no (by unfold okE; rw [hd, hh]; rfl)]
          exact ev_neg (by simp) (Ev.now _)
def entR (s : ByteArray) : Bool :=
  if s.size < 2 ∨ bt s 0 ≠ 35 then false else
  if bt s 1 = 120 ∨ bt s 1 = 88 then entL s 2 true 6 2 else entL s 1 false 7 1
theorem ent_tail (s : ByteArray) (hs : s.size ≤ 4294967296) : Ev (fun k => if (s.size : Int) < 2 then (indentureref20_Entity.j1 k s true) else (if 0 < (s.size : Int) then (indentureref20_Entity.j1 k s ((bt s 0) != 35)) else none)) (entR s) := by
  have no : Ev (fun k => indentureref20_Entity.j1 k s true) false := by
    refine Ev.step (fun k => by rw [indentureref20_Entity.j1]) ?_
    exact ev_pos rfl (Ev.now _)
  unfold entR
  by_cases h2 : s.size < 2
  · rw [if_pos (.inl h2)]
    exact ev_pos (by omega) no
  refine ev_neg (by omega) (ev_pos (by omega) ?_)
  by_cases h35 : bt s 0 = 35
  rotate_left
  · rw [if_pos (.inr h35), bne_iff_ne.2 h35]
    exact no
  rw [if_neg (fun h => h.elim h2 (fun h => h h35)), bne_eq_false_iff_eq.2 h35]
  refine Ev.step (fun k => by rw [indentureref20_Entity.j1]) ?_
  refine ev_neg (by simp) (ev_pos (by omega) ?_)
  have hx : Ev (fun k => indentureref20_Entity.j2 k s 1 true) (entL s 2 true 6 2) := by
    refine Ev.step (fun k => by rw [indentureref20_Entity.j2]) ?_
    refine ev_pos rfl ?_
    refine Ev.step (fun k => by rw [indentureref20_Entity.j3]) ?_
    exact ent_l1 s 2 true 6 hs (by omega) (by omega) s.size 2 (by omega)
  have hn : Ev (fun k => indentureref20_Entity.j2 k s 1 false) (entL s 1 false 7 1) := by
    refine Ev.step (fun k => by rw [indentureref20_Entity.j2]) ?_
    refine ev_neg (by simp) ?_
    refine Ev.step (fun k => by rw [indentureref20_Entity.j3]) ?_
    exact ent_l1 s 1 false 7 hs (by omega) (by omega) s.size 1 (by omega)
  by_cases c120 : bt s 1 = 120
  · rw [if_pos (.inl c120)]
    exact ev_pos c120 hx
  · refine ev_neg c120 ?_
    by_cases c88 : bt s 1 = 88
    · rw [if_pos (.inr c88), beq_iff_eq.2 c88]; exact hx
    · rw [if_neg (fun h => h.elim c120 c88), beq_eq_false_iff_ne.2 c88]; exact hn
theorem words_plain : ∀ w ∈ wordsL, w ≠ [] ∧ (32 : UInt8) ∉ w ∧ w.head? ≠ some 35 := by decide
theorem entS_eq (s : ByteArray) (hs : s.size ≤ 4294967296) : entS s = (decide (s.data.toList ∈ wordsL) || entR s) := by
  by_cases h35 : pfx s 35 = true
  rotate_left
  · have h35' : pfx s 35 = false := by simpa using h35
    have hr : entR s = false := by
      unfold entR
      refine if_pos ?_
      by_cases h2 : s.size < 2
      · exact .inl h2
      · exact .inr fun e => h35 ((pfx_iff s 35).2 ⟨by omega, e⟩)
    rw [hr, Bool.or_false]
    unfold entS
    rw [if_neg h35]
    by_cases hw : s.data.toList ∈ wordsL
    · obtain ⟨w1, w2, -⟩ := words_plain _ hw
      have h0 : s.size ≠ 0 := fun e => w1 (List.length_eq_zero_iff.1 (by rw [len_eq]; exact e))
      have hb : ∀ k : Nat, k < s.size → bt s (k : Int) ≠ 32 := fun k hk e => by
        have hk2 : k < s.data.toList.length := by rw [len_eq]; exact hk
        rw [bt_list s k hk2] at e
        exact w2 (by rw [show (32 : UInt8) = s.data.toList[k] from UInt8.toNat_inj.1 (show (32 : Nat) = _ by omega)]; exact List.getElem_mem hk2)
      have hi : Lib.indexByte s.data.toList 32 < 0 := by
        rcases index_cases s 32 with h | ⟨o, h⟩
        · omega
        · obtain ⟨a1, a2, -⟩ := index_some h
          exact absurd a2 (hb o a1)
      rw [decide_eq_true (p := s.size ≠ 0 ∧ Lib.indexByte s.data.toList 32 < 0) ⟨h0, hi⟩, contains_word s h0 hb, decide_eq_true hw]; rfl
    · rw [decide_eq_false hw]
      by_cases hc : s.size ≠ 0 ∧ Lib.indexByte s.data.toList 32 < 0
      · have hb : ∀ k : Nat, k < s.size → bt s (k : Int) ≠ 32 := by
          rcases index_cases s 32 with h | ⟨o, h⟩
          · exact fun k hk => index_none h k hk
          · omega
        rw [contains_word s hc.1 hb, decide_eq_false hw, Bool.and_false]
      · rw [decide_eq_false hc, Bool.false_and]
  · obtain ⟨hp, h0⟩ := (pfx_iff s 35).1 h35
    have h0' : bt s 0 = 35 := h0
    have hw : s.data.toList ∉ wordsL := fun h => by
      obtain ⟨-, -, w3⟩ := words_plain _ h
      refine w3 ?_
      have hk2 : 0 < s.data.toList.length := by rw [len_eq]; exact hp
      have := bt_list s 0 hk2
      rw [show bt s ((0 : Nat) : Int) = bt s 0 from rfl, h0'] at this
      rw [List.head?_eq_getElem?, List.getElem?_eq_getElem hk2]
      exact congrArg some (UInt8.toNat_inj.1 (show _ = (35 : Nat) by omega))
    rw [decide_eq_false hw, Bool.false_or]
    have hu := unhash_val s h35
    have hz : (unhash s).size = s.size - 1 := by rw [hu, size_ext _ _ _ (Nat.le_refl _)]
    have hb : ∀ k : Nat, k < s.size - 1 → bt (unhash s) (k : Int) = bt s ((k + 1 : Nat) : Int) := fun k hk => by rw [hu, bt_ext _ _ _ _ (Nat.le_refl _) hk, Nat.add_comm]
    unfold entS entR
    rw [if_pos h35]
    by_cases h2 : s.size < 2
    · have q : ∀ c : UInt8, ¬ pfx (unhash s) c = true := fun c h => by have := ((pfx_iff _ c).1 h).1; omega
      rw [if_pos (show s.size < 2 ∨ bt s 0 ≠ 35 from .inl h2), if_neg (show ¬ (pfx (unhash s) 120 = true ∨ pfx (unhash s) 88 = true) from fun h => h.elim (q 120) (q 88)), decide_eq_false (fun h => by omega)]
    rw [if_neg (show ¬ (s.size < 2 ∨ bt s 0 ≠ 35) from fun h => h.elim h2 (fun h => h h0'))]
    have hb0 : bt (unhash s) 0 = bt s 1 := hb 0 (by omega)
    have q : ∀ c : UInt8, pfx (unhash s) c = true ↔ bt s 1 = (c.toNat : Int) := fun c => by rw [pfx_iff, hb0]; exact ⟨fun h => h.2, fun h => ⟨by omega, h⟩⟩
    have q1 := q 120
    have q2 := q 88
    by_cases hx : bt s 1 = 120 ∨ bt s 1 = 88
    · rw [if_pos (show bt s 1 = 120 ∨ bt s 1 = 88 from hx), if_pos (show pfx (unhash s) 120 = true ∨ pfx (unhash s) 88 = true from hx.imp q1.2 q2.2)]
      unfold entL
      have hy : ((unhash s).extract 1 (unhash s).size).size = s.size - 2 := by rw [size_ext _ _ _ (Nat.le_refl _)]; omega
      have hyb : ∀ k : Nat, k < s.size - 2 → bt ((unhash s).extract 1 (unhash s).size) (k : Int) = bt s ((k + 2 : Nat) : Int) := fun k hk => by
        rw [bt_ext _ _ _ _ (Nat.le_refl _) (by omega), hb _ (by omega), show 1 + k + 1 = k + 2 by omega]
      rw [← Bool.decide_and]
      refine decide_eq_decide.2 ?_
      rw [cnt_all, hy]
      constructor
      · rintro ⟨a, b, c⟩
        refine ⟨fun j h1 h2 => ?_, by omega⟩
        have := c (j - 2) (by omega)
        rw [hyb _ (by omega), pred56, show j - 2 + 2 = j by omega] at this
        unfold okE
        unfold hexB at this
        rw [Bool.true_and, ← Bool.or_assoc]
        exact this
      · rintro ⟨a, b⟩
        refine ⟨by omega, by omega, fun k hk => ?_⟩
        rw [hyb k hk, pred56]
        have := a (k + 2) (by omega) (by omega)
        unfold okE at this
        unfold hexB
        rw [Bool.true_and, ← Bool.or_assoc] at this
        exact this
    · rw [if_neg (show ¬ (bt s 1 = 120 ∨ bt s 1 = 88) from hx), if_neg (show ¬ (pfx (unhash s) 120 = true ∨ pfx (unhash s) 88 = true) from fun h => hx (h.imp q1.1 q2.1))]
      unfold entL
      rw [← Bool.decide_and]
      refine decide_eq_decide.2 ?_
      rw [cnt_all, hz]
      constructor
      · rintro ⟨a, b, c⟩
        refine ⟨fun j h1 h2 => ?_, by omega⟩
        have := c (j - 1) (by omega)
        rw [hb _ (by omega), pred48, show j - 1 + 1 = j by omega] at this
        unfold okE
        rw [this]; rfl
      · rintro ⟨a, b⟩
        refine ⟨by omega, by omega, fun k hk => ?_⟩
        rw [hb k hk, pred48]
        have := a (k + 1) (by omega) (by omega)
        unfold okE at this
        simpa using this
theorem entity_r (s : ByteArray) (hs : s.size ≤ 4294967296) : Ev (fun k => indentureref20_Entity.f k s) (entS s) := by
  rw [entS_eq s hs]
  unfold indentureref20_Entity.f
  have h := ent_l0 s [(⟨#[97, 109, 112]⟩ : ByteArray), (⟨#[108, 116]⟩ : ByteArray), (⟨#[103, 116]⟩ : ByteArray), (⟨#[113, 117, 111, 116]⟩ : ByteArray), (⟨#[110, 98, 115, 112]⟩ : ByteArray), (⟨#[99, 111, 112, 121]⟩ : ByteArray), (⟨#[114, 101, 103]⟩ : ByteArray), (⟨#[104, 101, 108, 108, 105, 112]⟩ : ByteArray), (⟨#[109, 100, 97, 115, 104]⟩ : ByteArray), (⟨#[110, 100, 97, 115, 104]⟩ : ByteArray)] (entR s) (by decide) (ent_tail s hs) 10 0 (by decide)
  have e : (([(⟨#[97, 109, 112]⟩ : ByteArray), (⟨#[108, 116]⟩ : ByteArray), (⟨#[103, 116]⟩ : ByteArray), (⟨#[113, 117, 111, 116]⟩ : ByteArray), (⟨#[110, 98, 115, 112]⟩ : ByteArray), (⟨#[99, 111, 112, 121]⟩ : ByteArray), (⟨#[114, 101, 103]⟩ : ByteArray), (⟨#[104, 101, 108, 108, 105, 112]⟩ : ByteArray), (⟨#[109, 100, 97, 115, 104]⟩ : ByteArray), (⟨#[110, 100, 97, 115, 104]⟩ : ByteArray)] : List ByteArray).drop 0).any (fun x => x.data.toList == s.data.toList) = decide (s.data.toList ∈ wordsL) := by
    rw [List.drop_zero]
    have : wordsL = ([(⟨#[97, 109, 112]⟩ : ByteArray), (⟨#[108, 116]⟩ : ByteArray), (⟨#[103, 116]⟩ : ByteArray), (⟨#[113, 117, 111, 116]⟩ : ByteArray), (⟨#[110, 98, 115, 112]⟩ : ByteArray), (⟨#[99, 111, 112, 121]⟩ : ByteArray), (⟨#[114, 101, 103]⟩ : ByteArray), (⟨#[104, 101, 108, 108, 105, 112]⟩ : ByteArray), (⟨#[109, 100, 97, 115, 104]⟩ : ByteArray), (⟨#[110, 100, 97, 115, 104]⟩ : ByteArray)] : List ByteArray).map (fun x => x.data.toList) := rfl
    rw [this]
    generalize ([(⟨#[97, 109, 112]⟩ : ByteArray), (⟨#[108, 116]⟩ : ByteArray), (⟨#[103, 116]⟩ : ByteArray), (⟨#[113, 117, 111, 116]⟩ : ByteArray), (⟨#[110, 98, 115, 112]⟩ : ByteArray), (⟨#[99, 111, 112, 121]⟩ : ByteArray), (⟨#[114, 101, 103]⟩ : ByteArray), (⟨#[104, 101, 108, 108, 105, 112]⟩ : ByteArray), (⟨#[109, 100, 97, 115, 104]⟩ : ByteArray), (⟨#[110, 100, 97, 115, 104]⟩ : ByteArray)] : List ByteArray) = L
    rw [Bool.eq_iff_iff, List.any_eq_true, decide_eq_true_eq, List.mem_map]
    exact ⟨fun ⟨x, h1, h2⟩ => ⟨x, h1, beq_iff_eq.1 h2⟩, fun ⟨x, h1, h2⟩ => ⟨x, h1, beq_iff_eq.2 h2⟩⟩
  rw [e] at h
  exact h
end Go.Proofs.YtodgioleaegpfaaDoor.Pure
/- Plain lemmas: an address of mail, the program's side. Conditions: the sizes. -/
namespace Go.Proofs.YtodgioleaegpfaaDoor.Pure
open Go.RowKit Go.Proofs.YtodgioleaegpfaaDoor.P Go.Proofs.YtodgioleaegpfaaDoorW.PrintWords Go.Proofs.YtodgioleaegpfaaDoorW.PrintLast Go.Proofs.YtodgioleaegpfaaDoorW.PrintMore
set_option linter.unusedVariables false
set_option linter.unusedSimpArgs false
/-- A part between dots. -/
def partB (p : ByteArray) : Bool := decide (p.size ≠ 0 ∧ p.size ≤ 63 ∧ bt p 0 ≠ 45 ∧ bt p ((p.size - 1 : Nat) : Int) ≠ 45 ∧ ∀ k : Nat, k < p.size → okN (bt p (k : Int)) = true)
theorem mail_l0 (xs : List ByteArray) (hx : xs.length ≤ 4294967296) (hp : ∀ p ∈ xs, p.size ≤ 4294967296) : ∀ m i : Nat, xs.length ≤ i + m → Ev (fun k => mdcode_mail.l0 k xs (xs.length : Int) (i : Int)) ((xs.drop i).all partB)
  | 0, i, hm => by
    refine Ev.step (fun k => by rw [mdcode_mail.l0]) ?_
    rw [List.drop_eq_nil_of_le (by omega)]
    exact ev_neg (by omega) (Ev.now _)
  | m + 1, i, hm => by
    by_cases h : i < xs.length
    rotate_left
    · exact mail_l0 xs hx hp 0 i (by omega)
    refine Ev.step (fun k => by rw [mdcode_mail.l0]) ?_
    refine ev_pos (by omega) (ev_pos (by omega) (ev_pos (by omega) ?_))
    have ih := mail_l0 xs hx hp m (i + 1) (by omega)
    have e : rdOf ByteArray.empty xs (i : Int) = xs[i] := by
      unfold rdOf
      rw [Int.toNat_natCast, List.getD_eq_getElem?_getD, List.getElem?_eq_getElem h]; rfl
    have hz := hp xs[i] (List.getElem_mem h)
    rw [List.drop_eq_getElem_cons h, List.all_cons, e]
    generalize xs[i] = p at hz
    have no : ∀ {q : Prop}, (q → False) → ¬ q := id
    by_cases h0 : p.size = 0
    · rw [show partB p = false from decide_eq_false fun h => h.1 h0, Bool.false_and]
      exact ev_pos ((empty_iff p).2 h0) (Ev.now _)
    refine ev_neg (fun h => h0 ((empty_iff p).1 h)) ?_
    by_cases h63 : p.size > 63
    · rw [show partB p = false from decide_eq_false fun h => by omega, Bool.false_and]
      exact ev_pos (by omega) (Ev.now _)
    refine ev_neg (by omega) (ev_pos (by omega) ?_)
    by_cases hf : bt p 0 = 45
    · rw [show partB p = false from decide_eq_false fun h => h.2.2.1 hf, Bool.false_and]
      exact ev_pos hf (Ev.now _)
    have w : wrap64 ((p.size : Int) - 1) = ((p.size - 1 : Nat) : Int) := by rw [w64 (by omega) (by omega)]; omega
    refine ev_neg hf ?_
    rw [w]
    refine ev_pos (by omega) (ev_pos (by omega) ?_)
    by_cases hl : bt p ((p.size - 1 : Nat) : Int) = 45
    · rw [show partB p = false from decide_eq_false fun h => h.2.2.2.1 hl, Bool.false_and]
      exact ev_pos hl (Ev.now _)
    refine ev_neg hl ?_
    rw [count_val 52 _ rfl (by omega)]
    refine Ev.bind (Ev.now _) ?_
    have hc : cnt 52 p = p.size ↔ ∀ k : Nat, k < p.size → okN (bt p (k : Int)) = true := by
      rw [cnt_all]
      exact ⟨fun h k hk => by have := h k hk; rwa [pred52] at this, fun h k hk => by rw [pred52]; exact h k hk⟩
    have hle : cnt 52 p ≤ p.size := by
      obtain ⟨a1, a2, -⟩ := far_prop (q := fun i => pred 52 (bt p (i : Int))) p.size 0
      unfold cnt; omega
    by_cases hq : cnt 52 p < p.size
    · rw [show partB p = false from decide_eq_false fun h => by have := hc.2 h.2.2.2.2; omega, Bool.false_and]
      exact ev_pos (by omega) (Ev.now _)
    · rw [show partB p = true from decide_eq_true ⟨h0, by omega, hf, hl, hc.1 (by omega)⟩, Bool.true_and]
      refine ev_neg (by omega) ?_
      rw [w64 (by omega) (by omega), show (i : Int) + 1 = ((i + 1 : Nat) : Int) by omega]
      exact ih
/-- The parts between dots. -/
def dots (s : ByteArray) : List ByteArray := Lib.splitB ⟨#[46]⟩ 0 (Lib.countB s ⟨#[46]⟩) s
def mailS (s : ByteArray) : Bool := decide (1 ≤ fi s 64 0) && decide (∀ k : Nat, k < (fi s 64 0).toNat → okW (bt s (k : Int)) = true) && (dots (s.extract ((fi s 64 0).toNat + 1) s.size)).all partB
theorem mail_p (s : ByteArray) (hs : s.size < 4294967281) (hd : ∀ t : ByteArray, t.size ≤ s.size → (dots t).length ≤ 4294967296 ∧ ∀ p ∈ dots t, p.size ≤ 4294967296) : Ev (fun k => mdcode_mail.f k s) (mailS s) := by
  have hc := cut_val s 64 (by omega)
  rw [show ((64 : UInt8).toNat : Int) = 64 from rfl] at hc
  have no : ∀ (y : ByteArray), Ev (fun k => mdcode_mail.j0 k y true) false := fun y => by
    refine Ev.step (fun k => by rw [mdcode_mail.j0]) ?_
    exact ev_pos rfl (Ev.now _)
  unfold mdcode_mail.f
  rw [hc]
  unfold mailS
  rcases fi_cases s 64 with ⟨h, -⟩ | ⟨o, h, ho, hat, hbef⟩
  · rw [h, if_neg (by omega)]
    refine Ev.bind (Ev.now _) (ev_neg (by simp) ?_)
    exact no _
  · rw [h, if_pos (by omega), Int.toNat_natCast]
    have z1 := size_ext s 0 o (by omega)
    have z2 := size_ext s (o + 1) s.size (Nat.le_refl _)
    have b1 : ∀ k : Nat, k < o → bt (s.extract 0 o) (k : Int) = bt s (k : Int) := fun k hk => by rw [bt_ext s 0 o k (by omega) (by omega), Nat.zero_add]
    refine Ev.bind (Ev.now _) (ev_pos rfl ?_)
    dsimp only
    by_cases h0 : o = 0
    · rw [decide_eq_false (p := (1 : Int) ≤ (o : Int)) (by omega)]
      exact ev_pos ((empty_iff _).2 (by omega)) (no _)
    refine ev_neg (fun e => h0 (by have := (empty_iff _).1 e; omega)) ?_
    rw [decide_eq_true (p := (1 : Int) ≤ (o : Int)) (by omega), Bool.true_and, count_val 50 _ rfl (by omega)]
    refine Ev.bind (Ev.now _) ?_
    have c1 : cnt 50 (s.extract 0 o) = (s.extract 0 o).size ↔ ∀ i : Nat, i < o → okW (bt s (i : Int)) = true := by
      rw [cnt_all, z1, Nat.sub_zero]
      exact ⟨fun h i hi => by have := h i hi; rwa [b1 i hi, pred50 _ (bt_range s _)] at this, fun h i hi => by rw [b1 i hi, pred50 _ (bt_range s _)]; exact h i hi⟩
    have hle : cnt 50 (s.extract 0 o) ≤ (s.extract 0 o).size := by
      obtain ⟨a1, a2, -⟩ := far_prop (q := fun i => pred 50 (bt (s.extract 0 o) (i : Int))) (s.extract 0 o).size 0
      unfold cnt; omega
    by_cases p1 : cnt 50 (s.extract 0 o) = (s.extract 0 o).size
    · rw [decide_eq_true (c1.1 p1), Bool.true_and, decide_eq_false (p := ((cnt 50 (s.extract 0 o) : Nat) : Int) < ((s.extract 0 o).size : Int)) (by omega)]
      refine Ev.step (fun k => by rw [mdcode_mail.j0]) ?_
      refine ev_neg (by simp) ?_
      have hle2 := Lib.countB_le ⟨#[46]⟩ (by decide) _ (s.extract (o + 1) s.size) (Nat.le_refl _)
      have hsp : strings_Split.f (s.extract (o + 1) s.size) ⟨#[46]⟩ = some (dots (s.extract (o + 1) s.size)) := if_pos ⟨by omega, by decide, hle2⟩
      rw [hsp]
      obtain ⟨d1, d2⟩ := hd (s.extract (o + 1) s.size) (by omega)
      exact Ev.bind (Ev.now _) (mail_l0 _ d1 d2 (dots (s.extract (o + 1) s.size)).length 0 (by omega))
    · rw [decide_eq_false (fun h => p1 (c1.2 h)), Bool.false_and, decide_eq_true (p := ((cnt 50 (s.extract 0 o) : Nat) : Int) < ((s.extract 0 o).size : Int)) (by omega)]
      exact no _
end Go.Proofs.YtodgioleaegpfaaDoor.Pure
/- Plain lemmas: an address of mail, the document's side. Conditions: the sizes. -/
namespace Go.Proofs.YtodgioleaegpfaaDoor.Pure
open Go.RowKit Go.Proofs.YtodgioleaegpfaaDoor.P Go.Proofs.YtodgioleaegpfaaDoorW.PrintWords Go.Proofs.YtodgioleaegpfaaDoorW.PrintLast Go.Proofs.YtodgioleaegpfaaDoorW.PrintMore
set_option linter.unusedVariables false
set_option linter.unusedSimpArgs false
theorem index_one (c : UInt8) : ∀ l : List UInt8, Lib.index l [c] = Lib.indexByte l c
  | [] => by simp [Lib.index, Lib.indexByte]
  | b :: l => by
    have ih := index_one c l
    rw [Lib.index, Lib.indexByte, ih]
    by_cases h : b = c
    · subst h; simp [List.isPrefixOf]
    · have h2 : ¬ c = b := fun e => h e.symm
      simp [List.isPrefixOf, h, h2]
theorem indexB_fi (s : ByteArray) (c : UInt8) : Lib.indexB s ⟨#[c]⟩ = fi s (c.toNat : Int) 0 := by
  show Lib.index s.data.toList [c] = _
  rw [index_one, idx_fi]
theorem dots_none (s : ByteArray) (h : ∀ k : Nat, k < s.size → bt s (k : Int) ≠ 46) : dots s = [s] := by
  unfold dots
  refine Lib.splitB_miss _ _ _ _ ?_
  rw [indexB_fi]
  rcases fi_cases s ((46 : UInt8).toNat : Int) with ⟨e, -⟩ | ⟨o, -, ho, hat, -⟩
  · exact e
  · exact absurd hat (h o ho)
theorem dots_some (s : ByteArray) (o : Nat) (ho : o < s.size) (hat : bt s (o : Int) = 46) (hb : ∀ k : Nat, k < o → bt s (k : Int) ≠ 46) : dots s = s.extract 0 o :: dots (s.extract (o + 1) s.size) := by
  have hi : Lib.indexB s ⟨#[46]⟩ = (o : Int) := by
    rw [indexB_fi]
    rcases fi_cases s ((46 : UInt8).toNat : Int) with ⟨-, e⟩ | ⟨o', e, ho', hat', hb'⟩
    · exact absurd hat (e o ho)
    · rw [e]
      by_cases h1 : o < o'
      · exact absurd hat (hb' o h1)
      · by_cases h2 : o' < o
        · exact absurd hat' (hb o' h2)
        · omega
  have hc := Lib.countB_hit s ⟨#[46]⟩ o (by decide) hi
  unfold dots
  rw [hc, Nat.add_comm, Lib.splitB_hit _ _ _ _ o hi]
  rfl
/-- What is left from b on, i looked at: the part that begins at b holds good bytes so far. -/
theorem mail_l1 (s : ByteArray) (hs : s.size ≤ 4294967280) : ∀ m b i : Nat, s.size + 1 ≤ i + m → b ≤ i → i ≤ s.size → (∀ j : Nat, b ≤ j → j < i → okN (bt s (j : Int)) = true ∧ bt s (j : Int) ≠ 46) →
    Ev (fun k => indentureref20_Mail.l1 k s (b : Int) (i : Int)) ((dots (s.extract b s.size)).all partB)
  | 0, b, i, hm, hbi, hi, hg => by omega
  | m + 1, b, i, hm, hbi, hi, hg => by
    have zt := size_ext s b s.size (Nat.le_refl _)
    have bt' : ∀ k : Nat, k < s.size - b → bt (s.extract b s.size) (k : Int) = bt s ((b + k : Nat) : Int) := fun k hk => bt_ext s b s.size k (Nat.le_refl _) hk
    have w1 : wrap64 ((i : Int) + 1) = ((i + 1 : Nat) : Int) := by rw [w64 (by omega) (by omega)]; omega
    refine Ev.step (fun k => by rw [indentureref20_Mail.l1]) ?_
    refine ev_pos (by omega) ?_
    -- a part's end at i: what is told of it
    have fin : ∀ (rest : Bool), (i = s.size → rest = true) →
        (i = s.size → dots (s.extract b s.size) = [s.extract b s.size]) →
        (i < s.size → dots (s.extract b s.size) = (s.extract b s.size).extract 0 (i - b) :: dots (s.extract (i + 1) s.size)) →
        (rest = if i < s.size then (dots (s.extract (i + 1) s.size)).all partB else true) →
        Ev (fun k => indentureref20_Mail.l1 k s ((i + 1 : Nat) : Int) ((i + 1 : Nat) : Int)) rest →
        Ev (fun k => indentureref20_Mail.j2 k s (b : Int) (i : Int) false) ((dots (s.extract b s.size)).all partB) := by
      intro rest _ hd1 hd2 hr hev
      have part : ∃ p : ByteArray, (dots (s.extract b s.size)).all partB = (partB p && rest) ∧ p.size = i - b ∧ ∀ k : Nat, k < i - b → bt p (k : Int) = bt s ((b + k : Nat) : Int) := by
        by_cases he : i < s.size
        · refine ⟨(s.extract b s.size).extract 0 (i - b), by rw [hd2 he, List.all_cons, hr, if_pos he], by rw [size_ext _ _ _ (by omega)]; omega, fun k hk => ?_⟩
          rw [bt_ext _ 0 (i - b) k (by omega) (by omega), Nat.zero_add, bt' k (by omega)]
        · refine ⟨s.extract b s.size, by rw [hd1 (by omega), hr, if_neg he]; simp, by omega, fun k hk => bt' k (by omega)⟩
      obtain ⟨p, hp, hz, hpb⟩ := part
      rw [hp]
      refine Ev.step (fun k => by rw [indentureref20_Mail.j2]) ?_
      refine ev_neg (by simp) ?_
      have no : (p.size ≠ 0 ∧ p.size ≤ 63 ∧ bt p 0 ≠ 45 ∧ bt p ((p.size - 1 : Nat) : Int) ≠ 45 → False) → (partB p && rest) = false := fun h => by
        rw [show partB p = false from decide_eq_false fun hh => h ⟨hh.1, hh.2.1, hh.2.2.1, hh.2.2.2.1⟩, Bool.false_and]
      by_cases h0 : i = b
      · rw [no (fun h => h.1 (by omega))]
        exact ev_pos (by omega) (Ev.now _)
      refine ev_neg (by omega) ?_
      rw [w64 (x := (i : Int) - (b : Int)) (by omega) (by omega)]
      by_cases h63 : i - b > 63
      · rw [no (fun h => by omega)]
        exact ev_pos (by omega) (Ev.now _)
      refine ev_neg (by omega) (ev_pos (by omega) (ev_pos (by omega) ?_))
      have e0 : bt p 0 = bt s (b : Int) := hpb 0 (by omega)
      by_cases hf : bt s (b : Int) = 45
      · rw [no (fun h => h.2.2.1 (e0.trans hf))]
        exact ev_pos hf (Ev.now _)
      refine ev_neg hf ?_
      have w2 : wrap64 ((i : Int) - 1) = ((i - 1 : Nat) : Int) := by rw [w64 (by omega) (by omega)]; omega
      rw [w2]
      refine ev_pos (by omega) (ev_pos (by omega) ?_)
      have e1 : bt p ((p.size - 1 : Nat) : Int) = bt s ((i - 1 : Nat) : Int) := by
        rw [hpb (p.size - 1) (by omega), show b + (p.size - 1) = i - 1 by omega]
      by_cases hl : bt s ((i - 1 : Nat) : Int) = 45
      · rw [no (fun h => h.2.2.2 (e1.trans hl))]
        exact ev_pos hl (Ev.now _)
      refine ev_neg hl ?_
      rw [show partB p = true from decide_eq_true ⟨by omega, by omega, fun h => hf (e0.symm.trans h), fun h => hl (e1.symm.trans h), fun k hk => by rw [hpb k (by omega)]; exact (hg (b + k) (by omega) (by omega)).1⟩, Bool.true_and, w1]
      exact hev
    by_cases h : i < s.size
    · refine ev_pos (by omega) (ev_pos (by omega) ?_)
      by_cases hd : bt s (i : Int) = 46
      · rw [bne_eq_false_iff_eq.2 hd]
        refine fin _ (fun e => by omega) (fun e => by omega) (fun _ => ?_) (if_pos h).symm (mail_l1 s hs m (i + 1) (i + 1) (by omega) (Nat.le_refl _) (by omega) (fun j h1 h2 => by omega))
        rw [dots_some (s.extract b s.size) (i - b) (by omega) (by rw [bt' _ (by omega), show b + (i - b) = i by omega]; exact hd) (fun k hk => by rw [bt' _ (by omega)]; exact (hg (b + k) (by omega) (by omega)).2)]
        congr 2
        rw [ext_ext s b s.size (i - b + 1) (s.extract b s.size).size (by omega) (Nat.le_refl _)]
        congr 1 <;> omega
      · rw [bne_iff_ne.2 hd]
        refine Ev.step (fun k => by rw [indentureref20_Mail.j2]) ?_
        refine ev_pos rfl (ev_pos (by omega) (ev_pos (by omega) ?_))
        have go : okN (bt s (i : Int)) = true → Ev (fun k => indentureref20_Mail.j3 k s (b : Int) (i : Int) false) ((dots (s.extract b s.size)).all partB) := by
          intro hok
          refine Ev.step (fun k => by rw [indentureref20_Mail.j3]) ?_
          refine ev_neg (by simp) ?_
          rw [w1]
          refine mail_l1 s hs m b (i + 1) (by omega) (by omega) (by omega) (fun j h1 h2 => ?_)
          by_cases e : j = i
          · rw [e]; exact ⟨hok, hd⟩
          · exact hg j h1 (by omega)
        rw [letter_r, digit_r]
        refine Ev.bind (Ev.now _) ?_
        cases hl : letB (bt s (i : Int)) with
        | true => exact ev_pos rfl (go (by unfold okN; rw [hl]; rfl))
        | false =>
          refine ev_neg (by simp) (Ev.bind (Ev.now _) ?_)
          cases hdg : digB (bt s (i : Int)) with
          | true => exact ev_pos rfl (go (by unfold okN; rw [hl, hdg]; rfl))
          | false =>
            refine ev_neg (by simp) ?_
            by_cases h45 : bt s (i : Int) = 45
            · rw [bne_eq_false_iff_eq.2 h45]
              exact go (by unfold okN; rw [hl, hdg, decide_eq_true h45]; rfl)
            · rw [bne_iff_ne.2 h45]
              refine Ev.step (fun k => by rw [indentureref20_Mail.j3]) ?_
              have bad : (dots (s.extract b s.size)).all partB = false := by
                have hbad : okN (bt s (i : Int)) = false := by unfold okN; rw [hl, hdg, decide_eq_false h45]; rfl
                -- the part that holds place i
                have : ∃ p ∈ dots (s.extract b s.size), ∃ k : Nat, k < p.size ∧ bt p (k : Int) = bt s (i : Int) := by
                  rcases fi_cases (s.extract b s.size) 46 with ⟨-, hno⟩ | ⟨o, -, ho, hat, hbef⟩
                  · rw [dots_none _ hno]
                    exact ⟨_, List.mem_singleton.2 rfl, i - b, by omega, by rw [bt' _ (by omega), show b + (i - b) = i by omega]⟩
                  · have hoi : i - b < o := by
                      by_cases hc : o < i - b
                      · rw [bt' o (by omega)] at hat
                        exact absurd hat (hg (b + o) (by omega) (by omega)).2
                      · by_cases hc2 : o = i - b
                        · rw [hc2, bt' _ (by omega), show b + (i - b) = i by omega] at hat
                          exact absurd hat hd
                        · omega
                    rw [dots_some _ o ho hat hbef]
                    refine ⟨_, List.mem_cons_self, i - b, by rw [size_ext _ _ _ (by omega)]; omega, ?_⟩
                    rw [bt_ext _ 0 o (i - b) (by omega) (by omega), Nat.zero_add, bt' _ (by omega), show b + (i - b) = i by omega]
                obtain ⟨p, hp, k, hk, hkb⟩ := this
                rw [List.all_eq_false]
                refine ⟨p, hp, ?_⟩
                rw [show partB p = false from decide_eq_false fun hh => by have := hh.2.2.2.2 k hk; rw [hkb, hbad] at this; cases this]
                simp
              rw [bad]
              exact ev_pos rfl (Ev.now _)
    · have he : i = s.size := by omega
      refine ev_neg (by omega) ?_
      refine fin true (fun _ => rfl) (fun _ => ?_) (fun h' => by omega) (if_neg h).symm ?_
      · exact dots_none _ fun k hk => by rw [bt' k (by omega)]; exact (hg (b + k) (by omega) (by omega)).2
      · refine Ev.step (fun k => by rw [indentureref20_Mail.l1]) ?_
        exact ev_neg (by omega) (Ev.now _)
theorem mail_l0r (s : ByteArray) (o : Nat) (ho : o < s.size) (hs : s.size ≤ 4294967280) : ∀ m i : Nat, o ≤ i + m → i ≤ o →
    Ev (fun k => indentureref20_Mail.l0 k s (o : Int) (i : Int)) (decide (∀ k : Nat, k < o → i ≤ k → okW (bt s (k : Int)) = true) && (dots (s.extract (o + 1) s.size)).all partB)
  | 0, i, hm, hi => by
    refine Ev.step (fun k => by rw [indentureref20_Mail.l0]) ?_
    refine ev_neg (by omega) ?_
    rw [decide_eq_true (p := ∀ k : Nat, k < o → i ≤ k → okW (bt s (k : Int)) = true) (fun k h1 h2 => by omega), Bool.true_and, w64 (by omega) (by omega), show (o : Int) + 1 = ((o + 1 : Nat) : Int) by omega]
    exact mail_l1 s hs (s.size + 1) (o + 1) (o + 1) (by omega) (Nat.le_refl _) (by omega) (fun j h1 h2 => by omega)
  | m + 1, i, hm, hi => by
    by_cases h : i < o
    rotate_left
    · exact mail_l0r s o ho hs 0 i (by omega) hi
    refine Ev.step (fun k => by rw [indentureref20_Mail.l0]) ?_
    refine ev_pos (by omega) (ev_pos (by omega) (ev_pos (by omega) ?_))
    have ih := mail_l0r s o ho hs m (i + 1) (by omega) (by omega)
    have w1 : wrap64 ((i : Int) + 1) = ((i + 1 : Nat) : Int) := by rw [w64 (by omega) (by omega)]; omega
    have yes : okW (bt s (i : Int)) = true → decide (∀ k : Nat, k < o → i ≤ k → okW (bt s (k : Int)) = true) = decide (∀ k : Nat, k < o → i + 1 ≤ k → okW (bt s (k : Int)) = true) := fun h1 => by
      refine decide_eq_decide.2 ⟨fun h j a b => h j a (by omega), fun h j a b => ?_⟩
      by_cases e : j = i
      · rw [e]; exact h1
      · exact h j a (by omega)
    rw [letter_r, digit_r, w1]
    refine Ev.bind (Ev.now _) ?_
    cases hl : letB (bt s (i : Int)) with
    | true => rw [yes (by unfold okW; rw [hl]; rfl)]; exact ev_pos rfl ih
    | false =>
      refine ev_neg (by simp) (Ev.bind (Ev.now _) ?_)
      cases hdg : digB (bt s (i : Int)) with
      | true => rw [yes (by unfold okW; rw [hl, hdg]; rfl)]; exact ev_pos rfl ih
      | false =>
        refine ev_neg (by simp) ?_
        by_cases h96 : bt s (i : Int) = 96
        · rw [yes (by unfold okW; rw [hl, hdg, decide_eq_true h96]; rfl)]
          exact ev_pos h96 ih
        refine ev_neg h96 ?_
        refine Ev.bind (in_r L50 (bt s (i : Int)) (by decide) 19 0 (by decide)) ?_
        cases hin : decide (0 ≤ fi L50 (bt s (i : Int)) 0) with
        | true => rw [yes (by unfold okW; rw [hl, hdg, decide_eq_false h96, hin]; rfl)]; exact ev_pos rfl ih
        | false =>
          rw [decide_eq_false (p := ∀ k : Nat, k < o → i ≤ k → okW (bt s (k : Int)) = true) (fun hh => by have := hh i h (Nat.le_refl _); unfold okW at this; rw [hl, hdg, decide_eq_false h96, hin] at this; cases this), Bool.false_and]
          exact ev_neg (by simp) (Ev.now _)
theorem mail_r (s : ByteArray) (hs : s.size ≤ 4294967280) : Ev (fun k => indentureref20_Mail.f k s) (mailS s) := by
  unfold indentureref20_Mail.f
  refine Ev.bind (find_r s 64 (by omega) s.size 0 (by omega)) ?_
  unfold mailS
  rcases fi_cases s 64 with ⟨h, -⟩ | ⟨o, h, ho, hat, hbef⟩
  · rw [h]
    exact ev_pos (by omega) (Ev.now _)
  · rw [h, Int.toNat_natCast]
    by_cases h0 : o = 0
    · rw [decide_eq_false (p := (1 : Int) ≤ (o : Int)) (by omega)]
      exact ev_pos (by omega) (Ev.now _)
    refine ev_neg (by omega) ?_
    rw [decide_eq_true (p := (1 : Int) ≤ (o : Int)) (by omega), Bool.true_and]
    have := mail_l0r s o ho hs o 0 (by omega) (by omega)
    have e : decide (∀ k : Nat, k < o → 0 ≤ k → okW (bt s (k : Int)) = true) = decide (∀ k : Nat, k < o → okW (bt s (k : Int)) = true) := decide_eq_decide.2 ⟨fun h k hk => h k hk (Nat.zero_le _), fun h k hk _ => h k hk⟩
    rw [e] at this
    exact this
/-- The parts of a text between dots are no greater than the text. -/
theorem dots_small : ∀ (m : Nat) (t : ByteArray), t.size ≤ m → (dots t).length ≤ t.size + 1 ∧ ∀ p ∈ dots t, p.size ≤ t.size
  | m, t, hm => by
    rcases fi_cases t 46 with ⟨-, hno⟩ | ⟨o, -, ho, hat, hbef⟩
    · rw [dots_none _ hno]
      exact ⟨by simp, fun p hp => by rw [List.mem_singleton.1 hp]; exact Nat.le_refl _⟩
    · rw [dots_some _ o ho hat hbef]
      cases m with
      | zero => omega
      | succ m =>
        have z := size_ext t (o + 1) t.size (Nat.le_refl _)
        obtain ⟨a1, a2⟩ := dots_small m (t.extract (o + 1) t.size) (by omega)
        refine ⟨by rw [List.length_cons]; omega, fun p hp => ?_⟩
        rcases List.mem_cons.1 hp with rfl | hp
        · rw [size_ext _ _ _ (by omega)]; omega
        · have := a2 p hp; omega
theorem mail_p' (s : ByteArray) (hs : s.size ≤ 4294967200) : Ev (fun k => mdcode_mail.f k s) (mailS s) :=
  mail_p s (by omega) fun t ht => by
    obtain ⟨a1, a2⟩ := dots_small t.size t (Nat.le_refl _)
    exact ⟨by omega, fun p hp => by have := a2 p hp; omega⟩
end Go.Proofs.YtodgioleaegpfaaDoor.Pure
/- Plain lemmas: what stands at a place, as the program reads it and as the document does. Conditions: lines of at most 4,000,000,000 bytes. -/
namespace Go.Proofs.YtodgioleaegpfaaDoor.Pure
open Go.RowKit Go.Proofs.YtodgioleaegpfaaDoor.P Go.Proofs.YtodgioleaegpfaaDoorW.PrintWords Go.Proofs.YtodgioleaegpfaaDoorW.PrintLast Go.Proofs.YtodgioleaegpfaaDoorW.PrintMore
set_option linter.unusedVariables false
set_option linter.unusedSimpArgs false
/-! ### a line's end, both sides -/
def hd (s : ByteArray) : ByteArray := s.extract 0 (endN s)
theorem hd_size (s : ByteArray) : (hd s).size = endN s := by unfold hd; rw [size_ext s 0 _ (endN_le s)]; omega
def lfB (s : ByteArray) : Bool := decide (endN s < s.size)
theorem ahead_val (s : ByteArray) (hs : s.size ≤ 140737488355328) : mdcode_ahead.f s = some (hd s, lfB s) := by
  unfold mdcode_ahead.f lfB
  rcases cut_lf s hs with ⟨h1, h2⟩ | ⟨i, h1, h2⟩
  · have e : endN s = s.size := by unfold endN; rw [h1]
    have e2 : hd s = s := by unfold hd; rw [e, ext_all]
    rw [h2]
    simp only [Option.bind_some]
    rw [if_neg (by simp), e2, decide_eq_false (by omega)]
  · have e : endN s = if 0 < i ∧ bt s ((i - 1 : Nat) : Int) = 13 then i - 1 else i := by unfold endN; rw [h1]
    have hi := (fst_some h1).2.1
    rw [h2]
    simp only [Option.bind_some, if_true]
    rw [trim_cr s i (by omega) hs, Option.bind_some, decide_eq_true (by rw [e]; split <;> omega)]
    unfold hd
    rw [e]
theorem end_loop (s : ByteArray) (hs : s.size ≤ 140737488355328) : ∀ (m j : Nat), j + m = s.size → (∀ i : Nat, i < j → bt s (i : Int) ≠ 10) → Ev (fun k => indentureref11_End.l0 k s j) ((endN s : Nat) : Int)
  | 0, j, hj, hn => by
    refine Ev.step (f := fun _ => some ((s.size : Nat) : Int)) (fun k => ?_) ?_
    · simp only [indentureref11_End.l0]
      rw [if_neg (by omega)]
    · rw [endN_none fun i hi => hn i (by omega)]
      exact Ev.now _
  | m + 1, j, hj, hn => by
    by_cases h : bt s (j : Int) = 10
    · have hf : fst (fun i => bt s (i : Int) == 10) s.size 0 = some j := fst_eq (Nat.zero_le _) (by omega) (by simpa using h) (fun k _ hk => by simpa using hn k hk)
      have e : endN s = if 0 < j ∧ bt s ((j - 1 : Nat) : Int) = 13 then j - 1 else j := by unfold endN; rw [hf]
      refine Ev.step (f := fun _ => some ((endN s : Nat) : Int)) (fun k => ?_) (Ev.now _)
      simp only [indentureref11_End.l0]
      rw [if_pos (by omega), if_pos (by omega), if_pos h, e]
      by_cases h0 : 0 < j
      · rw [if_pos (by omega), w64 (by omega) (by omega), if_pos (by omega), if_pos (by omega), show (j : Int) - 1 = ((j - 1 : Nat) : Int) by omega]
        by_cases h13 : bt s ((j - 1 : Nat) : Int) = 13
        · rw [if_pos h13, if_pos ⟨h0, h13⟩]
        · rw [if_neg h13, if_neg (fun h => h13 h.2)]
      · rw [if_neg (by omega), if_neg (fun h => h0 h.1)]
    · refine Ev.step (f := fun k => indentureref11_End.l0 k s ((j + 1 : Nat) : Int)) (fun k => ?_) (end_loop s hs m (j + 1) (by omega) fun i hi => ?_)
      · simp only [indentureref11_End.l0]
        rw [if_pos (by omega), if_pos (by omega), if_neg h, w64 (by omega) (by omega), Int.natCast_add]
        rfl
      · by_cases e : i = j
        · rw [e]; exact h
        · exact hn i (by omega)
theorem end_val (s : ByteArray) (hs : s.size ≤ 140737488355328) : Ev (fun k => indentureref11_End.f k s) ((endN s : Nat) : Int) :=
  end_loop s hs s.size 0 (by omega) fun i hi => by omega
/-! ### what is read -/
def markB (c : Int) : Bool := (mdcode_mark.f c).getD false
theorem mark_p (c : Int) : mdcode_mark.f c = some (markB c) := by
  unfold markB
  have : ∃ b, mdcode_mark.f c = some b := by
    unfold mdcode_mark.f
    repeat' split
    all_goals exact ⟨_, rfl⟩
  obtain ⟨b, hb⟩ := this
  rw [hb]; rfl
theorem mark_r (c : Int) : indentureref17_Mark.f c = some (markB c) := mark_p c
def angle (x : ByteArray) : Bool := schS x || mailS x
/-- The kind, and how many bytes it takes: the text s from the place on, whether it comes to the line's end, whether an LF stands there. -/
def rdN (s : ByteArray) (last lf : Bool) : Nat × Nat :=
  if bt s 0 = 92 then (if s.size = 1 ∧ last = true then (91, s.size) else if 1 < s.size ∧ markB (bt s 1) = true then (90, 2) else (0, 1))
  else if bt s 0 = 32 then (if last = true ∧ lf = true ∧ 1 < s.size ∧ ∀ k : Nat, k < s.size → bt s (k : Int) = 32 then (91, s.size) else (0, 1))
  else if bt s 0 = 96 then (if 0 < cdN s (tk s 0) s.size (tk s 0) then (83, cdN s (tk s 0) s.size (tk s 0)) else (0, tk s 0))
  else if bt s 0 = 60 then (if 0 < fi s 62 0 ∧ angle (s.extract 1 (fi s 62 0).toNat) = true then (88, (fi s 62 0).toNat + 1) else (0, 1))
  else if bt s 0 = 38 then (if 0 < fi s 59 0 ∧ entS (s.extract 1 (fi s 59 0).toNat) = true then (89, (fi s 59 0).toNat + 1) else (0, 1))
  else (0, 1)
section
variable {s : ByteArray} {last lf : Bool}
theorem rdN_bs_last (h : bt s 0 = 92) (h1 : s.size = 1) (h2 : last = true) : rdN s last lf = (91, s.size) := by unfold rdN; rw [if_pos h, if_pos ⟨h1, h2⟩]
theorem rdN_bs_mark (h : bt s 0 = 92) (h1 : 1 < s.size) (h2 : markB (bt s 1) = true) : rdN s last lf = (90, 2) := by unfold rdN; rw [if_pos h, if_neg (fun h => by omega), if_pos ⟨h1, h2⟩]
theorem rdN_bs_no (h : bt s 0 = 92) (h1 : ¬ (s.size = 1 ∧ last = true)) (h2 : ¬ (1 < s.size ∧ markB (bt s 1) = true)) : rdN s last lf = (0, 1) := by unfold rdN; rw [if_pos h, if_neg h1, if_neg h2]
theorem rdN_sp_yes (h : bt s 0 = 32) (h1 : last = true) (h2 : lf = true) (h3 : 1 < s.size) (h4 : ∀ k : Nat, k < s.size → bt s (k : Int) = 32) : rdN s last lf = (91, s.size) := by unfold rdN; rw [if_neg (by omega), if_pos h, if_pos ⟨h1, h2, h3, h4⟩]
theorem rdN_sp_no (h : bt s 0 = 32) (h1 : ¬ (last = true ∧ lf = true ∧ 1 < s.size ∧ ∀ k : Nat, k < s.size → bt s (k : Int) = 32)) : rdN s last lf = (0, 1) := by unfold rdN; rw [if_neg (by omega), if_pos h, if_neg h1]
theorem rdN_tick_yes (h : bt s 0 = 96) (h1 : 0 < cdN s (tk s 0) s.size (tk s 0)) : rdN s last lf = (83, cdN s (tk s 0) s.size (tk s 0)) := by unfold rdN; rw [if_neg (by omega), if_neg (by omega), if_pos h, if_pos h1]
theorem rdN_tick_no (h : bt s 0 = 96) (h1 : ¬ 0 < cdN s (tk s 0) s.size (tk s 0)) : rdN s last lf = (0, tk s 0) := by unfold rdN; rw [if_neg (by omega), if_neg (by omega), if_pos h, if_neg h1]
theorem rdN_lt_yes (h : bt s 0 = 60) (h1 : 0 < fi s 62 0) (h2 : angle (s.extract 1 (fi s 62 0).toNat) = true) : rdN s last lf = (88, (fi s 62 0).toNat + 1) := by unfold rdN; rw [if_neg (by omega), if_neg (by omega), if_neg (by omega), if_pos h, if_pos ⟨h1, h2⟩]
theorem rdN_lt_no (h : bt s 0 = 60) (h1 : ¬ (0 < fi s 62 0 ∧ angle (s.extract 1 (fi s 62 0).toNat) = true)) : rdN s last lf = (0, 1) := by unfold rdN; rw [if_neg (by omega), if_neg (by omega), if_neg (by omega), if_pos h, if_neg h1]
theorem rdN_amp_yes (h : bt s 0 = 38) (h1 : 0 < fi s 59 0) (h2 : entS (s.extract 1 (fi s 59 0).toNat) = true) : rdN s last lf = (89, (fi s 59 0).toNat + 1) := by unfold rdN; rw [if_neg (by omega), if_neg (by omega), if_neg (by omega), if_neg (by omega), if_pos h, if_pos ⟨h1, h2⟩]
theorem rdN_amp_no (h : bt s 0 = 38) (h1 : ¬ (0 < fi s 59 0 ∧ entS (s.extract 1 (fi s 59 0).toNat) = true)) : rdN s last lf = (0, 1) := by unfold rdN; rw [if_neg (by omega), if_neg (by omega), if_neg (by omega), if_neg (by omega), if_pos h, if_neg h1]
theorem rdN_other (h1 : bt s 0 ≠ 92) (h2 : bt s 0 ≠ 32) (h3 : bt s 0 ≠ 96) (h4 : bt s 0 ≠ 60) (h5 : bt s 0 ≠ 38) : rdN s last lf = (0, 1) := by unfold rdN; rw [if_neg h1, if_neg h2, if_neg h3, if_neg h4, if_neg h5]
end
/-- What is told of a place. -/
def at_ (a : Nat) (p : Nat × Nat) : Int × Int := (((p.1 : Nat) : Int), ((a + p.2 : Nat) : Int))
theorem cdN_le (s : ByteArray) (n : Nat) : ∀ m i : Nat, cdN s n m i = 0 ∨ (i + n ≤ cdN s n m i ∧ cdN s n m i ≤ s.size)
  | 0, i => .inl rfl
  | m + 1, i => by
    unfold cdN
    split
    · rename_i h
      obtain ⟨t1, t2, -, -⟩ := tk_prop s i (by omega)
      split
      · exact .inr ⟨Nat.le_refl _, by omega⟩
      · rcases cdN_le s n m (max (tk s i) (i + 1)) with h0 | h0
        · exact .inl h0
        · exact .inr (by omega)
    · exact .inl rfl
theorem tk_pos (s : ByteArray) (h0 : 0 < s.size) (h96 : bt s 0 = 96) : 0 < tk s 0 := by
  obtain ⟨t1, t2, t3, t4⟩ := tk_prop s 0 (by omega)
  rcases Nat.eq_zero_or_pos (tk s 0) with e | e
  · have := t4 (by omega)
    rw [e] at this
    exact absurd h96 this
  · exact e
theorem rdN_le (s : ByteArray) (last lf : Bool) (h0 : 0 < s.size) : 0 < (rdN s last lf).2 ∧ (rdN s last lf).2 ≤ s.size := by
  have hi : ∀ c, 0 < fi s c 0 → (fi s c 0).toNat + 1 ≤ s.size := fun c h => by
    rcases fi_cases s c with ⟨e, -⟩ | ⟨o, e, ho, -⟩
    · omega
    · omega
  unfold rdN
  split
  · split
    · exact ⟨h0, Nat.le_refl _⟩
    · split
      · rename_i h; exact ⟨by simp, h.1⟩
      · exact ⟨by simp, h0⟩
  split
  · split
    · exact ⟨h0, Nat.le_refl _⟩
    · exact ⟨by simp, h0⟩
  split
  · rename_i h96
    have hp := tk_pos s h0 h96
    obtain ⟨t1, t2, -, -⟩ := tk_prop s 0 (by omega)
    split
    · rename_i h
      rcases cdN_le s (tk s 0) s.size (tk s 0) with e | e
      · omega
      · exact ⟨h, e.2⟩
    · exact ⟨hp, t2⟩
  split
  · split
    · rename_i h; exact ⟨by simp, hi _ h.1⟩
    · exact ⟨by simp, h0⟩
  split
  · split
    · rename_i h; exact ⟨by simp, hi _ h.1⟩
    · exact ⟨by simp, h0⟩
  exact ⟨by simp, h0⟩
end Go.Proofs.YtodgioleaegpfaaDoor.Pure
/- Plain lemmas: what stands at a place, as the program reads it. Conditions: lines of at most 4,000,000,000 bytes. -/
namespace Go.Proofs.YtodgioleaegpfaaDoor.Pure
open Go.RowKit Go.Proofs.YtodgioleaegpfaaDoor.P Go.Proofs.YtodgioleaegpfaaDoorW.PrintWords Go.Proofs.YtodgioleaegpfaaDoorW.PrintLast Go.Proofs.YtodgioleaegpfaaDoorW.PrintMore
set_option linter.unusedVariables false
set_option linter.unusedSimpArgs false
/-- One more place. -/
theorem wr1 (a : Nat) (h : a ≤ 4000000000) : wrap64 ((a : Int) + 1) = ((a + 1 : Nat) : Int) := by rw [w64 (by omega) (by omega)]; omega
theorem wr2 (a : Nat) (h : a ≤ 4000000000) : wrap64 ((a : Int) + 2) = ((a + 2 : Nat) : Int) := by rw [w64 (by omega) (by omega)]; omega
theorem wra (a b : Nat) (h : a + b ≤ 4000000000) : wrap64 ((a : Int) + (b : Int)) = ((a + b : Nat) : Int) := by rw [w64 (by omega) (by omega)]; omega
theorem wr3 (a b : Nat) (h : a + b ≤ 4000000000) : wrap64 (wrap64 ((a : Int) + (b : Int)) + 1) = ((a + (b + 1) : Nat) : Int) := by rw [wra a b h, wr1 _ h, Nat.add_assoc]
theorem wr4 (a b : Nat) (h : a + b ≤ 4000000000) : wrap64 ((a : Int) + (b : Int) + 1) = ((a + (b + 1) : Nat) : Int) := by rw [w64 (by omega) (by omega)]; omega
theorem ev_is {α : Type} {f : Nat → Option α} {x r : α} (h : x = r) (k : Ev f x) : Ev f r := h ▸ k
/-- The program's. -/
theorem readB_val (s : ByteArray) (a e z : Nat) (lf : Bool) (h0 : 0 < s.size) (ha : a + s.size = e) (he : e ≤ 4000000000) (hz : e ≤ z) :
    Ev (fun k => readB k s (a : Int) (e : Int) (z : Int) lf) (at_ a (rdN s (decide (e = z)) lf)) := by
  have one : ∀ r, r = (0, 1) → Ev (fun _ => some ((0 : Int), ((a + 1 : Nat) : Int))) (at_ a r) := fun r h => by subst h; exact Ev.now _
  have e1 : at_ a (91, s.size) = (91, (e : Int)) := by unfold at_; rw [ha]; rfl
  unfold readB
  simp only [i64_w]
  rw [wr1 a (by omega), wr2 a (by omega)]
  by_cases c92 : bt s 0 = 92
  · refine ev_pos c92 ?_
    by_cases q : s.size = 1 ∧ e = z
    · rw [rdN_bs_last c92 q.1 (decide_eq_true q.2), e1]
      exact ev_pos ⟨by omega, by omega⟩ (Ev.now _)
    · refine ev_neg (fun h => q ⟨by omega, by omega⟩) ?_
      have q' : ¬ (s.size = 1 ∧ decide (e = z) = true) := fun h => q ⟨h.1, of_decide_eq_true h.2⟩
      by_cases h1 : 1 < s.size
      · refine ev_pos (by omega) ?_
        rw [mark_p]
        refine Ev.bind (Ev.now _) ?_
        by_cases hm : markB (bt s 1) = true
        · rw [rdN_bs_mark c92 h1 hm]; exact ev_pos hm (Ev.now _)
        · exact ev_neg hm (one _ (rdN_bs_no c92 q' fun h => hm h.2))
      · exact ev_neg (by omega) (one _ (rdN_bs_no c92 q' fun h => h1 h.1))
  refine ev_neg c92 ?_
  by_cases c32 : bt s 0 = 32
  · refine ev_pos c32 ?_
    by_cases q : e = z ∧ lf = true ∧ 1 < s.size
    · refine ev_pos ⟨by omega, q.2.1, by omega⟩ ?_
      obtain ⟨tr, ht, hiff⟩ := trim_val s (by omega)
      rw [ht]
      refine Ev.bind (Ev.now _) ?_
      by_cases ht0 : tr.size = 0
      · rw [rdN_sp_yes c32 (decide_eq_true q.1) q.2.1 q.2.2 (hiff.1 ht0), e1]
        exact ev_pos ht0 (Ev.now _)
      · exact ev_neg ht0 (one _ (rdN_sp_no c32 fun h => ht0 (hiff.2 h.2.2.2)))
    · exact ev_neg (fun h => q ⟨by omega, h.2.1, by omega⟩) (one _ (rdN_sp_no c32 fun h => q ⟨of_decide_eq_true h.1, h.2.1, h.2.2.1⟩))
  refine ev_neg c32 ?_
  by_cases c96 : bt s 0 = 96
  · refine ev_pos c96 ?_
    obtain ⟨t1, t2, t3, t4⟩ := tk_prop s 0 (by omega)
    have hac : mdcode_accents.f s = some ((tk s 0 : Nat) : Int) := by
      have := accents_cut s 0 (by omega) (by omega)
      rwa [ext_all, Nat.sub_zero] at this
    have hcd : Ev (fun k => mdcode_code.f k s) ((cdN s (tk s 0) s.size (tk s 0) : Nat) : Int) := by
      unfold mdcode_code.f
      rw [hac]
      exact Ev.bind (Ev.now _) (code_p s (tk s 0) (by omega) t2 s.size (tk s 0) (by omega) t2)
    refine Ev.bind hcd ?_
    have hle := cdN_le s (tk s 0) s.size (tk s 0)
    by_cases hc : 0 < cdN s (tk s 0) s.size (tk s 0)
    · rw [rdN_tick_yes c96 hc]
      refine ev_pos (by omega) ?_
      rw [wra a _ (by omega)]
      exact Ev.now _
    · rw [rdN_tick_no c96 hc]
      refine ev_neg (by omega) ?_
      rw [hac]
      refine Ev.bind (Ev.now _) ?_
      rw [wra a _ (by omega)]
      exact Ev.now _
  refine ev_neg c96 ?_
  by_cases c60 : bt s 0 = 60
  · refine ev_pos c60 ?_
    rw [idx_in s 62 (by omega)]
    refine Ev.bind (Ev.now _) ?_
    rcases fi_cases s 62 with ⟨h, -⟩ | ⟨o, h, ho, -, -⟩
    · refine ev_neg (fun h' => by omega) (ev_pos (by omega) (one _ (rdN_lt_no c60 fun h' => by omega)))
    · have htn : (fi s 62 0).toNat = o := by omega
      by_cases hp : 0 < o
      · refine ev_pos ⟨by omega, by omega⟩ ?_
        have z1 : (s.extract 1 o).size = o - 1 := size_ext s 1 o (by omega)
        rw [htn, h, wr3 a o (by omega)]
        have yes : angle (s.extract 1 o) = true → at_ a (rdN s (decide (e = z)) lf) = (88, ((a + (o + 1) : Nat) : Int)) := fun hh => by
          rw [rdN_lt_yes c60 (by omega) (by rw [htn]; exact hh), htn]; rfl
        refine Ev.bind (scheme_p _ (by omega)) ?_
        cases hs1 : schS (s.extract 1 o) with
        | true =>
          rw [yes (by unfold angle; rw [hs1]; rfl)]
          exact ev_pos rfl (Ev.now _)
        | false =>
          refine ev_neg (by simp) (Ev.bind (mail_p' _ (by omega)) ?_)
          cases hm : mailS (s.extract 1 o) with
          | true =>
            rw [yes (by unfold angle; rw [hs1, hm]; rfl)]
            exact ev_pos rfl (Ev.now _)
          | false =>
            refine ev_neg (by simp) (one _ (rdN_lt_no c60 fun h' => ?_))
            have := h'.2
            rw [htn] at this
            unfold angle at this
            rw [hs1, hm] at this
            cases this
      · exact ev_neg (fun h' => by omega) (ev_pos (by omega) (one _ (rdN_lt_no c60 fun h' => by omega)))
  refine ev_neg c60 ?_
  by_cases c38 : bt s 0 = 38
  · refine ev_pos c38 ?_
    rw [idx_in s 59 (by omega)]
    refine Ev.bind (Ev.now _) ?_
    rcases fi_cases s 59 with ⟨h, -⟩ | ⟨o, h, ho, -, -⟩
    · exact ev_neg (fun h' => by omega) (ev_pos (by omega) (one _ (rdN_amp_no c38 fun h' => by omega)))
    · have htn : (fi s 59 0).toNat = o := by omega
      by_cases hp : 0 < o
      · refine ev_pos ⟨by omega, by omega⟩ ?_
        have z1 : (s.extract 1 o).size = o - 1 := size_ext s 1 o (by omega)
        rw [htn, h, wr3 a o (by omega)]
        refine ev_pos (by omega) ?_
        by_cases hm : entS (s.extract 1 o) = true
        · rw [rdN_amp_yes c38 (by omega) (by rw [htn]; exact hm), htn]
          exact ev_pos hm (Ev.now _)
        · exact ev_neg hm (one _ (rdN_amp_no c38 fun h' => hm (by have := h'.2; rwa [htn] at this)))
      · exact ev_neg (fun h' => by omega) (ev_pos (by omega) (one _ (rdN_amp_no c38 fun h' => by omega)))
  exact ev_neg c38 (one _ (rdN_other c92 c32 c96 c60 c38))
/-- What Read tells. -/
def rdS (line : ByteArray) (a en : Int) : Int × Int :=
  if a < 0 ∨ a ≥ en ∨ a ≥ (endN line : Int) then (0, 0) else
  at_ a.toNat (rdN (line.extract a.toNat (min en (endN line : Int)).toNat) (decide ((endN line : Int) ≤ en)) (lfB line))
theorem rdS_out (line : ByteArray) (a en : Int) (h : a < 0 ∨ a ≥ en ∨ a ≥ (endN line : Int)) : rdS line a en = (0, 0) := if_pos h
theorem rdS_in (line : ByteArray) (A E : Nat) (en : Int) (hE : min en ((endN line : Nat) : Int) = (E : Int)) (h : A < E) : rdS line (A : Int) en = at_ A (rdN (line.extract A E) (decide (E = endN line)) (lfB line)) := by
  unfold rdS
  rw [if_neg (by omega), hE, Int.toNat_natCast, Int.toNat_natCast, decide_eq_decide.2 (show ((endN line : Nat) : Int) ≤ en ↔ E = endN line by omega)]
theorem read_p (line : ByteArray) (a en : Int) (hs : line.size ≤ 4000000000) : Ev (fun k => mdcode_Read.f k line a en) (rdS line a en) := by
  have hl := endN_le line
  unfold mdcode_Read.f
  rw [ahead_val line (by omega)]
  refine Ev.bind (Ev.now _) ?_
  dsimp only
  rw [hd_size]
  have hmin : (if ((endN line : Nat) : Int) < en then ((endN line : Nat) : Int) else en) = min en ((endN line : Nat) : Int) := by split <;> omega
  rw [hmin]
  by_cases h : a < 0 ∨ a ≥ en ∨ a ≥ (endN line : Int)
  · rw [rdS_out line a en h]
    exact ev_pos (by omega) (Ev.now _)
  refine ev_neg (by omega) ?_
  obtain ⟨A, rfl⟩ : ∃ A : Nat, a = (A : Int) := ⟨a.toNat, by omega⟩
  obtain ⟨E, hE⟩ : ∃ E : Nat, min en ((endN line : Nat) : Int) = (E : Int) := ⟨(min en ((endN line : Nat) : Int)).toNat, by omega⟩
  rw [rdS_in line A E en hE (by omega), hE, Int.toNat_natCast, Int.toNat_natCast]
  have e1 : (hd line).extract A E = line.extract A E := by
    unfold hd
    rw [ext_ext line 0 (endN line) A E (by omega) hl, Nat.zero_add, Nat.zero_add]
  rw [e1]
  have hz := size_ext line A E (by omega)
  exact readB_val (line.extract A E) A E (endN line) (lfB line) (by omega) (by omega) (by omega) (by omega)
end Go.Proofs.YtodgioleaegpfaaDoor.Pure
/- Plain lemmas: what stands at a place, as the document reads it. Conditions: lines of at most 4,000,000,000 bytes. -/
namespace Go.Proofs.YtodgioleaegpfaaDoor.Pure
open Go.RowKit Go.Proofs.YtodgioleaegpfaaDoor.P Go.Proofs.YtodgioleaegpfaaDoorW.PrintWords Go.Proofs.YtodgioleaegpfaaDoorW.PrintLast Go.Proofs.YtodgioleaegpfaaDoorW.PrintMore
set_option linter.unusedVariables false
set_option linter.unusedSimpArgs false
/-- The document's: a byte looked for in a part of the line. -/
theorem find_w (line s : ByteArray) (a : Nat) (c : Int) (hc : Cut line s a) (hs : line.size ≤ 4000000000) : ∀ (m i : Nat), s.size ≤ i + m → i ≤ s.size →
    Ev (fun k => indentureref20_find.l0 k line ((a + s.size : Nat) : Int) c ((a + i : Nat) : Int)) (if fi s c i < 0 then -1 else (a : Int) + fi s c i)
  | 0, i, hm, hi => by
    have hz := hc.size
    refine Ev.step (fun k => by rw [indentureref20_find.l0]) ?_
    rw [fi_end s c i (by omega)]
    exact ev_neg (by omega) (Ev.now _)
  | m + 1, i, hm, hi => by
    have hz := hc.size
    by_cases h : i < s.size
    rotate_left
    · exact find_w line s a c hc hs 0 i (by omega) hi
    refine Ev.step (fun k => by rw [indentureref20_find.l0]) ?_
    refine ev_pos (by omega) (ev_pos (by omega) (ev_pos (by omega) ?_))
    rw [hc.bt i h]
    by_cases hq : bt s (i : Int) = c
    · rw [fi_here s c i h hq, if_neg (by omega)]
      exact ev_pos hq (ev_is (by omega) (Ev.now _))
    · rw [fi_next s c i h hq]
      refine ev_neg hq ?_
      rw [wr1 (a + i) (by omega), Nat.add_assoc]
      exact find_w line s a c hc hs m (i + 1) (by omega) (by omega)
theorem cut_ext (line s : ByteArray) (a o : Nat) (hc : Cut line s a) (ho : o ≤ s.size) : line.extract (a + 1) (a + o) = s.extract 1 o := by
  have hz := hc.size
  refine ext_bt (by rw [size_ext _ _ _ (by omega), size_ext _ _ _ (by omega)]; omega) fun i hi => ?_
  rw [size_ext _ _ _ (by omega)] at hi
  rw [bt_ext _ _ _ _ (by omega) (by omega), bt_ext _ _ _ _ (by omega) (by omega), Nat.add_assoc, hc.bt _ (by omega)]
/-- The search's two ends: none; at o. -/
theorem find_ends (line s : ByteArray) (a : Nat) (c : Int) (hc : Cut line s a) (hs : line.size ≤ 4000000000) (h0 : bt s 0 ≠ c) :
    (fi s c 0 = -1 ∧ Ev (fun k => indentureref20_find.f k line (a : Int) ((a + s.size : Nat) : Int) c) (-1)) ∨
    ∃ o : Nat, 0 < o ∧ o < s.size ∧ fi s c 0 = (o : Int) ∧ (∀ k : Nat, k < o → bt s (k : Int) ≠ c) ∧ Ev (fun k => indentureref20_find.f k line (a : Int) ((a + s.size : Nat) : Int) c) ((a + o : Nat) : Int) := by
  have f := find_w line s a c hc hs s.size 0 (by omega) (by omega)
  rcases fi_cases s c with ⟨h, -⟩ | ⟨o, h, ho, hat, hbef⟩
  · rw [h, if_pos (by omega)] at f
    exact .inl ⟨h, f⟩
  · rw [h, if_neg (by omega)] at f
    refine .inr ⟨o, ?_, ho, h, hbef, ?_⟩
    · rcases Nat.eq_zero_or_pos o with e | e
      · rw [e] at hat
        exact absurd hat h0
      · exact e
    · rwa [show ((a + o : Nat) : Int) = (a : Int) + (o : Int) by omega]
def Rd (line s : ByteArray) (a : Nat) (last lf : Bool) (f : Nat → Option (Int × Int)) : Prop := Ev f (at_ a (rdN s last lf))
section
variable {line s : ByteArray} {a : Nat} {last lf : Bool}
theorem j7_one (x : Int) (hx : x ≠ 38) (ha : a ≤ 4000000000) : Ev (fun k => indentureref20_Read.j7 k line (a : Int) ((a + s.size : Nat) : Int) x) (0, ((a + 1 : Nat) : Int)) := by
  refine Ev.step (fun k => by rw [indentureref20_Read.j7]) ?_
  rw [wr1 a ha]
  exact ev_neg hx (Ev.now _)
theorem read_j7 (hc : Cut line s a) (hs : line.size ≤ 4000000000) (h0 : 0 < s.size) (h92 : bt s 0 ≠ 92) (h32 : bt s 0 ≠ 32) (h96 : bt s 0 ≠ 96) (h60 : bt s 0 ≠ 60) :
    Ev (fun k => indentureref20_Read.j7 k line (a : Int) ((a + s.size : Nat) : Int) (bt s 0)) (at_ a (rdN s last lf)) := by
  have hz := hc.size
  by_cases c38 : bt s 0 = 38
  rotate_left
  · rw [rdN_other h92 h32 h96 h60 c38]
    exact j7_one _ c38 (by omega)
  refine Ev.step (fun k => by rw [indentureref20_Read.j7]) ?_
  rw [wr1 a (by omega)]
  refine ev_pos c38 ?_
  rcases find_ends line s a 59 hc hs (by omega) with ⟨h, f⟩ | ⟨o, hp, ho, h, hbef, f⟩
  · rw [rdN_amp_no c38 (fun h' => by omega)]
    exact Ev.bind f (ev_neg (by omega) (Ev.now _))
  · have htn : (fi s 59 0).toNat = o := by omega
    refine Ev.bind f (ev_pos (by omega) (ev_pos (by omega) (ev_pos (by omega) (ev_pos (by omega) ?_))))
    rw [Int.toNat_natCast, Int.toNat_natCast, cut_ext line s a o hc (by omega), wr1 (a + o) (by omega)]
    have z1 : (s.extract 1 o).size = o - 1 := size_ext s 1 o (by omega)
    refine Ev.bind (entity_r _ (by omega)) ?_
    by_cases hm : entS (s.extract 1 o) = true
    · rw [rdN_amp_yes c38 (by omega) (by rw [htn]; exact hm), htn]
      exact ev_pos hm (Ev.now _)
    · rw [rdN_amp_no c38 (fun h' => hm (by have := h'.2; rwa [htn] at this))]
      exact ev_neg hm (Ev.now _)
theorem read_j6 (hc : Cut line s a) (hs : line.size ≤ 4000000000) (h0 : 0 < s.size) (h92 : bt s 0 = 92 → rdN s last lf = (0, 1)) (h32 : bt s 0 = 32 → rdN s last lf = (0, 1)) :
    Ev (fun k => indentureref20_Read.j6 k line (a : Int) ((a + s.size : Nat) : Int) (bt s 0)) (at_ a (rdN s last lf)) := by
  have hz := hc.size
  refine Ev.step (fun k => by rw [indentureref20_Read.j6]) ?_
  rw [wr1 a (by omega)]
  by_cases c92 : bt s 0 = 92
  · rw [h92 c92]
    exact ev_neg (by omega) (ev_neg (by omega) (j7_one _ (by omega) (by omega)))
  by_cases c32 : bt s 0 = 32
  · rw [h32 c32]
    exact ev_neg (by omega) (ev_neg (by omega) (j7_one _ (by omega) (by omega)))
  by_cases c96 : bt s 0 = 96
  · refine ev_pos c96 ?_
    obtain ⟨t1, t2, t3, t4⟩ := tk_prop s 0 (by omega)
    have hp := tk_pos s h0 c96
    have hrow : Ev (fun k => indentureref20_row.f k line (a : Int) ((a + s.size : Nat) : Int)) ((a + tk s 0 : Nat) : Int) := row_r line s a hc (by omega) s.size 0 (by omega) (by omega)
    have hcode : Ev (fun k => indentureref20_code.f k line (a : Int) ((a + s.size : Nat) : Int)) (if cdN s (tk s 0) s.size (tk s 0) = 0 then 0 else ((a + cdN s (tk s 0) s.size (tk s 0) : Nat) : Int)) := by
      unfold indentureref20_code.f
      exact Ev.bind hrow (code_r line s a (tk s 0) hc (by omega) hp t2 s.size (tk s 0) (by omega) t2)
    refine Ev.bind hcode ?_
    by_cases hcd : cdN s (tk s 0) s.size (tk s 0) = 0
    · rw [rdN_tick_no c96 (by omega), if_pos hcd]
      exact ev_neg (by omega) (Ev.bind hrow (Ev.now _))
    · rw [rdN_tick_yes c96 (by omega), if_neg hcd]
      exact ev_pos (by omega) (Ev.now _)
  refine ev_neg c96 ?_
  by_cases c60 : bt s 0 = 60
  rotate_left
  · exact ev_neg c60 (read_j7 hc hs h0 c92 c32 c96 c60)
  refine ev_pos c60 ?_
  have one : rdN s last lf = (0, 1) → Ev (fun k => indentureref20_Read.j7 k line (a : Int) ((a + s.size : Nat) : Int) (bt s 0)) (at_ a (rdN s last lf)) := fun h => by
    rw [h]; exact j7_one _ (by omega) (by omega)
  rcases find_ends line s a 62 hc hs (by omega) with ⟨h, f⟩ | ⟨o, hp, ho, h, hbef, f⟩
  · exact Ev.bind f (ev_neg (by omega) (one (rdN_lt_no c60 fun h' => by omega)))
  · have htn : (fi s 62 0).toNat = o := by omega
    refine Ev.bind f (ev_pos (by omega) (ev_pos (by omega) (ev_pos (by omega) (ev_pos (by omega) ?_))))
    rw [Int.toNat_natCast, Int.toNat_natCast, cut_ext line s a o hc (by omega), wr1 (a + o) (by omega)]
    have z1 : (s.extract 1 o).size = o - 1 := size_ext s 1 o (by omega)
    have hno : ∀ k : Nat, k < (s.extract 1 o).size → bt (s.extract 1 o) (k : Int) ≠ 62 := fun k hk => by
      rw [bt_ext _ _ _ _ (by omega) (by omega)]
      exact hbef _ (by omega)
    have yes : angle (s.extract 1 o) = true → at_ a (rdN s last lf) = (88, ((a + (o + 1) : Nat) : Int)) := fun hh => by
      rw [rdN_lt_yes c60 (by omega) (by rw [htn]; exact hh), htn]; rfl
    refine Ev.bind (scheme_r _ (by omega) hno) ?_
    cases hs1 : schS (s.extract 1 o) with
    | true =>
      rw [yes (by unfold angle; rw [hs1]; rfl)]
      exact ev_pos rfl (Ev.now _)
    | false =>
      refine ev_neg (by simp) (Ev.bind (mail_r _ (by omega)) ?_)
      cases hm : mailS (s.extract 1 o) with
      | true =>
        rw [yes (by unfold angle; rw [hs1, hm]; rfl)]
        exact ev_pos rfl (Ev.now _)
      | false =>
        refine ev_neg (by simp) (one (rdN_lt_no c60 fun h' => ?_))
        have := h'.2
        rw [htn] at this
        unfold angle at this
        rw [hs1, hm] at this
        cases this
end
/-- The document's loop over blanks. -/
theorem read_l0 (line s : ByteArray) (a : Nat) (hc : Cut line s a) (hs : line.size ≤ 4000000000) (x : Int) (r : Int × Int) (hall : (∀ k : Nat, k < s.size → bt s (k : Int) = 32) → r = (91, ((a + s.size : Nat) : Int)))
    (hno : ¬ (∀ k : Nat, k < s.size → bt s (k : Int) = 32) → Ev (fun k => indentureref20_Read.j6 k line (a : Int) ((a + s.size : Nat) : Int) x) r) :
    ∀ (m i : Nat) (b : Bool), s.size ≤ i + m → i ≤ s.size → (b = true ↔ ∀ k : Nat, k < i → bt s (k : Int) = 32) →
      Ev (fun k => indentureref20_Read.l0 k line (a : Int) ((a + s.size : Nat) : Int) ((a + s.size : Nat) : Int) x b ((a + i : Nat) : Int)) r
  | 0, i, b, hm, hi, hb => by
    refine Ev.step (fun k => by rw [indentureref20_Read.l0]) ?_
    obtain rfl : i = s.size := by omega
    refine ev_neg (by omega) ?_
    by_cases h : b = true
    · rw [hall (hb.1 h)]
      exact ev_pos h (Ev.now _)
    · exact ev_neg h (hno fun h' => h (hb.2 h'))
  | m + 1, i, b, hm, hi, hb => by
    have hz := hc.size
    by_cases h : i < s.size
    rotate_left
    · exact read_l0 line s a hc hs x r hall hno 0 i b (by omega) hi hb
    refine Ev.step (fun k => by rw [indentureref20_Read.l0]) ?_
    refine ev_pos (by omega) ?_
    rw [wr1 (a + i) (by omega), Nat.add_assoc]
    by_cases hbt : b = true
    · refine ev_pos hbt (ev_pos (by omega) (ev_pos (by omega) ?_))
      rw [hc.bt i h]
      refine read_l0 line s a hc hs x r hall hno m (i + 1) _ (by omega) (by omega) ?_
      rw [beq_iff_eq]
      constructor
      · intro he k hk
        by_cases e : k = i
        · rw [e]; exact he
        · exact hb.1 hbt k (by omega)
      · intro hk
        exact hk i (by omega)
    · refine ev_neg hbt (read_l0 line s a hc hs x r hall hno m (i + 1) false (by omega) (by omega) ⟨fun h => (by cases h), fun hk => absurd (hb.2 fun k hk' => hk k (by omega)) hbt⟩)
section
variable {line s : ByteArray} {a z : Nat}
theorem read_j4 (hc : Cut line s a) (hs : line.size ≤ 4000000000) (h0 : 0 < s.size) (lf : Bool) (h92 : bt s 0 = 92 → rdN s (decide (a + s.size = z)) lf = (0, 1)) (b : Bool) (hb : b = true ↔ bt s 0 = 32 ∧ a + s.size = z ∧ 1 < s.size ∧ lf = true) :
    Ev (fun k => indentureref20_Read.j4 k line (a : Int) ((a + s.size : Nat) : Int) (z : Int) (bt s 0) b) (at_ a (rdN s (decide (a + s.size = z)) lf)) := by
  refine Ev.step (fun k => by rw [indentureref20_Read.j4]) ?_
  cases b with
  | true =>
    obtain ⟨q1, q2, q3, q4⟩ := hb.1 rfl
    refine ev_pos rfl ?_
    subst q2
    refine read_l0 line s a hc hs (bt s 0) _ (fun hk => by rw [rdN_sp_yes q1 (decide_eq_true rfl) q4 q3 hk]; rfl) (fun hk => ?_) s.size 0 true (by omega) (by omega) ⟨fun _ k hk => by omega, fun _ => rfl⟩
    exact read_j6 hc hs h0 h92 (fun _ => rdN_sp_no q1 fun h => hk h.2.2.2)
  | false =>
    refine ev_neg (by simp) ?_
    refine read_j6 hc hs h0 h92 (fun h32 => rdN_sp_no h32 fun h => ?_)
    have := hb.2 ⟨h32, of_decide_eq_true h.1, h.2.2.1, h.2.1⟩
    cases this
theorem read_j3 (hc : Cut line s a) (hs : line.size ≤ 4000000000) (h0 : 0 < s.size) (hz : a + s.size ≤ z) (hzl : z ≤ line.size) (b : Bool) (h1 : b = true → rdN s (decide (a + s.size = z)) (decide (z < line.size)) = (90, 2)) (h2 : b = false → bt s 0 = 92 → rdN s (decide (a + s.size = z)) (decide (z < line.size)) = (0, 1)) :
    Ev (fun k => indentureref20_Read.j3 k line (a : Int) ((a + s.size : Nat) : Int) (z : Int) (bt s 0) b) (at_ a (rdN s (decide (a + s.size = z)) (decide (z < line.size)))) := by
  refine Ev.step (fun k => by rw [indentureref20_Read.j3]) ?_
  cases b with
  | true =>
    rw [h1 rfl, wr2 a (by omega)]
    exact ev_pos rfl (Ev.now _)
  | false =>
    refine ev_neg (by simp) ?_
    have hw : wrap64 ((z : Int) - (a : Int)) = ((z - a : Nat) : Int) := by rw [w64 (by omega) (by omega)]; omega
    rw [hw]
    have j4 := fun b hb => read_j4 (z := z) hc hs h0 (decide (z < line.size)) (h2 rfl) b hb
    by_cases c32 : bt s 0 = 32
    · refine ev_pos c32 ?_
      by_cases hq : a + s.size = z
      · refine ev_pos (by omega) ?_
        by_cases h2s : 1 < s.size
        · refine ev_pos (by omega) (j4 _ ?_)
          rw [decide_eq_true_eq, decide_eq_true_eq]
          exact ⟨fun h => ⟨c32, hq, h2s, by omega⟩, fun h => by omega⟩
        · exact ev_neg (by omega) (j4 false ⟨fun h => (by cases h), fun h => absurd h.2.2.1 h2s⟩)
      · exact ev_neg (by omega) (j4 false ⟨fun h => (by cases h), fun h => absurd h.2.1 hq⟩)
    · exact ev_neg c32 (j4 false ⟨fun h => (by cases h), fun h => absurd h.1 c32⟩)
theorem read_j2 (hc : Cut line s a) (hs : line.size ≤ 4000000000) (h0 : 0 < s.size) (hz : a + s.size ≤ z) (hzl : z ≤ line.size) (b : Bool) (hb : b = true ↔ bt s 0 = 92 ∧ s.size = 1 ∧ a + s.size = z) :
    Ev (fun k => indentureref20_Read.j2 k line (a : Int) ((a + s.size : Nat) : Int) (z : Int) (bt s 0) b) (at_ a (rdN s (decide (a + s.size = z)) (decide (z < line.size)))) := by
  refine Ev.step (fun k => by rw [indentureref20_Read.j2]) ?_
  rw [wr1 a (by omega)]
  cases b with
  | true =>
    obtain ⟨q1, q2, q3⟩ := hb.1 rfl
    refine ev_pos rfl ?_
    rw [rdN_bs_last q1 q2 (decide_eq_true q3)]
    unfold at_
    rw [q3]
    exact Ev.now _
  | false =>
    refine ev_neg (by simp) ?_
    have j3 := fun b h1 h2 => read_j3 hc hs h0 hz hzl b h1 h2
    by_cases c92 : bt s 0 = 92
    · refine ev_pos c92 ?_
      have hn : ¬ (s.size = 1 ∧ decide (a + s.size = z) = true) := fun h => by have := hb.2 ⟨c92, h.1, of_decide_eq_true h.2⟩; cases this
      by_cases h1 : 1 < s.size
      · refine ev_pos (by omega) (ev_pos (by omega) (ev_pos (by omega) ?_))
        rw [hc.bt 1 h1, mark_r]
        refine Ev.bind (Ev.now _) (j3 _ (fun hm => rdN_bs_mark c92 h1 hm) (fun hm _ => rdN_bs_no c92 hn fun h => ?_))
        have h2 := h.2
        rw [show bt s 1 = bt s ((1 : Nat) : Int) from rfl, hm] at h2
        cases h2
      · exact ev_neg (by omega) (j3 false (fun h => by cases h) (fun _ _ => rdN_bs_no c92 hn fun h => h1 h.1))
    · exact ev_neg c92 (j3 false (fun h => by cases h) (fun _ h => absurd h c92))
end
theorem read_j1 (line : ByteArray) (A E : Nat) (en : Int) (hs : line.size ≤ 4000000000) (hE : min en ((endN line : Nat) : Int) = (E : Int)) (hA : A < E) :
    Ev (fun k => indentureref20_Read.j1 k line (A : Int) (E : Int) ((endN line : Nat) : Int) false) (rdS line (A : Int) en) := by
  have hl := endN_le line
  rw [rdS_in line A E en hE hA]
  obtain ⟨s, hsd⟩ : ∃ s, s = line.extract A E := ⟨_, rfl⟩
  rw [← hsd]
  have hsz : s.size = E - A := by rw [hsd, size_ext line A E (by omega)]
  have hc : Cut line s A := ⟨by omega, fun i hi => by rw [hsd, bt_ext _ _ _ _ (by omega) (by omega)]⟩
  obtain rfl : E = A + s.size := by omega
  have h0 : 0 < s.size := by omega
  have hx : bt line (A : Int) = bt s 0 := hc.bt 0 h0
  have hz : A + s.size ≤ endN line := by omega
  clear hsd hE
  refine Ev.step (fun k => by rw [indentureref20_Read.j1]) ?_
  rw [hx, wr1 A (by omega)]
  refine ev_neg (by simp) (ev_pos (by omega) (ev_pos (by omega) ?_))
  have j2 := fun b hb => read_j2 hc hs h0 hz hl b hb
  by_cases c92 : bt s 0 = 92
  · refine ev_pos c92 ?_
    by_cases hq : A + 1 = endN line
    · refine ev_pos (by omega) (j2 _ ?_)
      rw [beq_iff_eq]
      exact ⟨fun h => ⟨c92, by omega, by omega⟩, fun h => by omega⟩
    · exact ev_neg (by omega) (j2 false ⟨fun h => (by cases h), fun h => absurd h.2 (by omega)⟩)
  · exact ev_neg c92 (j2 false ⟨fun h => (by cases h), fun h => absurd h.1 c92⟩)
theorem read_r (line : ByteArray) (a en : Int) (hs : line.size ≤ 4000000000) : Ev (fun k => indentureref20_Read.f k line a en) (rdS line a en) := by
  have hl := endN_le line
  have main : ∀ e2 : Int, e2 = min en ((endN line : Nat) : Int) → Ev (fun k => indentureref20_Read.j0 k line a e2 ((endN line : Nat) : Int)) (rdS line a en) := by
    intro e2 he2
    refine Ev.step (fun k => by rw [indentureref20_Read.j0]) ?_
    have yes : (a < 0 ∨ a ≥ en ∨ a ≥ (endN line : Int)) → Ev (fun k => indentureref20_Read.j1 k line a e2 ((endN line : Nat) : Int) true) (rdS line a en) := fun h => by
      rw [rdS_out line a en h]
      refine Ev.step (fun k => by rw [indentureref20_Read.j1]) ?_
      exact ev_pos rfl (Ev.now _)
    by_cases h : a < 0
    · exact ev_pos h (yes (.inl h))
    · refine ev_neg h ?_
      by_cases h2 : a ≥ e2
      · rw [decide_eq_true h2]
        exact yes (by omega)
      · rw [decide_eq_false h2]
        obtain ⟨A, rfl⟩ : ∃ A : Nat, a = (A : Int) := ⟨a.toNat, by omega⟩
        obtain ⟨E, rfl⟩ : ∃ E : Nat, e2 = (E : Int) := ⟨e2.toNat, by omega⟩
        exact read_j1 line A E en hs he2.symm (by omega)
  unfold indentureref20_Read.f
  refine Ev.bind (end_val line (by omega)) ?_
  by_cases h : en > ((endN line : Nat) : Int)
  · exact ev_pos h (main _ (by omega))
  · exact ev_neg h (main _ (by omega))
end Go.Proofs.YtodgioleaegpfaaDoor.Pure
