/- Plain lemmas: labels, destinations, titles and blanks, as the program's printed functions and the document's find them: one answer. Conditions: texts of at most 2^32 bytes; places within int's bounds. -/
import Derived.Test.YtlmhdiienpebfaaLibB
import Derived.Test.YtlmhdiienpebfaaPx2
import Derived.Test.YtlmhdiienpebfaaPx3
import Derived.Test.YtlmhdiienpebfaaPx4
import Derived.Test.YtlmhdiienpebfaaPx6
import Derived.Test.YtlmhdiienpebfaaPx7
import Derived.Test.YtlmhdiienpebfaaPx8
namespace Go.Proofs.Ytlmhdiienpebfaa.Pure
open Go.RowKit Go.Proofs.Ytlmhdiienpebfaa.P Go.Proofs.YtlmhdiienpebfaaW.PrintWords Go.Proofs.YtlmhdiienpebfaaW.PrintLast
set_option linter.unusedVariables false
set_option linter.unusedSimpArgs false

def markI (c : Int) : Bool := decide ((33 ≤ c ∧ c ≤ 47) ∨ (58 ≤ c ∧ c ≤ 64) ∨ (91 ≤ c ∧ c ≤ 96) ∨ (123 ≤ c ∧ c ≤ 126))
theorem mark_p (c : Int) : mdlabel_mark.f c = some (markI c) := by
  unfold mdlabel_mark.f markI
  repeat' split
  all_goals (congr 1; first | exact (decide_eq_true (by omega)).symm | exact (decide_eq_false (by omega)).symm | exact decide_eq_decide.2 (by omega))
theorem mark_r (c : Int) : indentureref17_Mark.f c = some (markI c) := by
  unfold indentureref17_Mark.f markI
  repeat' split
  all_goals (congr 1; first | exact (decide_eq_true (by omega)).symm | exact (decide_eq_false (by omega)).symm | exact decide_eq_decide.2 (by omega))
theorem blank_p (c : Int) : mdlabel_blank.f c = some (blankI c) := by
  unfold mdlabel_blank.f blankI
  by_cases h : c = 32
  · rw [if_pos h]; simp [h]
  · rw [if_neg h]; simp [h]

/-- Is a byte taken along by a backslash? (From byte 1 on.) -/
def tak (t : ByteArray) : Nat → Bool
  | 0 => false
  | i + 1 => if i = 0 then false else (!tak t i && bt t (i : Int) == 92 && markI (bt t ((i + 1 : Nat) : Int)))
theorem tak_one (t : ByteArray) : tak t 1 = false := by simp [tak]
theorem tak_succ (t : ByteArray) (i : Nat) (h : 0 < i) : tak t (i + 1) = (!tak t i && bt t (i : Int) == 92 && markI (bt t ((i + 1 : Nat) : Int))) := by
  conv => lhs; unfold tak
  rw [if_neg (by omega)]
theorem bt_out (t : ByteArray) (i : Nat) (h : t.size ≤ i) : bt t (i : Int) = 0 := by
  unfold bt
  rw [dif_neg (by simp; omega)]

def qc (t : ByteArray) (c : Int) (i : Nat) : Bool := bt t (i : Int) == c && !tak t i
def qo (t : ByteArray) (b : Int → Bool) (i : Nat) : Bool := b (bt t (i : Int)) && !tak t i
/-- How many bytes up to and with the first untaken c, if no untaken byte of b stands ahead of it. -/
def wth (t : ByteArray) (c : Int) (b : Int → Bool) : Option Nat :=
  match fst (fun i => qc t c i || qo t b i) (t.size - 1) 1 with
  | none => none
  | some j => if qc t c j = true then some (j + 1) else none

/-- What a text of the bytes that bar says of a byte. -/
def Bars (bar : ByteArray) (b : Int → Bool) : Prop := ∀ c : Int, 0 ≤ c → c ≤ 255 → ∃ r, strings_IndexByte.f bar c = some r ∧ (r ≥ 0 ↔ b c = true)
theorem bars_none : Bars ⟨#[]⟩ (fun _ => false) := fun c _ _ => ⟨-1, rfl, by simp⟩
theorem bars_one (x : UInt8) : Bars ⟨#[x]⟩ (fun c => c == (x.toNat : Int)) := by
  intro c h0 h1
  have e : strings_IndexByte.f ⟨#[x]⟩ c = some (Lib.indexByte [x] c.toNat.toUInt8) := rfl
  refine ⟨_, e, ?_⟩
  have hx : c.toNat.toUInt8.toNat = c.toNat := by simp; omega
  by_cases h : x = c.toNat.toUInt8
  · have : (x.toNat : Int) = c := by rw [h, hx]; omega
    simp [Lib.indexByte, h, this]
    omega
  · have h2 : (x == c.toNat.toUInt8) = false := by simpa using h
    have : ¬ c = (x.toNat : Int) := by
      intro e
      apply h
      rw [← UInt8.toNat_inj, hx, e]
      simp
    simp [Lib.indexByte, h2, this]

theorem within_loop (t bar : ByteArray) (c : Int) (b : Int → Bool) (hb : Bars bar b) (hc : c ≠ 92) (hb92 : b 92 = false) (ht : t.size ≤ 4294967296) :
    ∀ (m i : Nat), 0 < i → t.size ≤ i + m → tak t i = false →
      Ev (fun k => mdlabel_within.l0 k t c bar i) (match fst (fun i => qc t c i || qo t b i) (t.size - i) i with | none => (0, false) | some j => if qc t c j = true then (((j + 1 : Nat) : Int), true) else (0, false)) := by
  intro m
  induction m using Nat.strongRecOn with
  | _ m ih =>
    intro i hi hm hk
    by_cases hlt : i < t.size
    rotate_left
    · rw [show t.size - i = 0 by omega]
      refine Ev.step (f := fun _ => some (0, false)) (fun k => ?_) (Ev.now _)
      simp only [mdlabel_within.l0]
      rw [if_neg (by omega)]
    have hr := bt_range t (i : Int)
    have step1 : ∀ k, mdlabel_within.l0 (k + 1) t c bar i = mdlabel_within.j1 k t c bar i (bt t (i : Int)) (bt t (i : Int) == 92 && markI (bt t ((i + 1 : Nat) : Int))) := by
      intro k
      simp only [mdlabel_within.l0]
      rw [if_pos (by omega), if_pos (by omega), w64 (x := (i : Int) + 1) (by omega) (by omega)]
      by_cases h92 : bt t (i : Int) = 92
      · rw [if_pos h92]
        by_cases h1 : i + 1 < t.size
        · rw [if_pos (by omega), if_pos (by omega), mark_p]
          simp [h92]
        · rw [if_neg (by omega), bt_out t (i + 1) (by omega)]
          simp [h92, markI]
      · rw [if_neg h92]
        have : (bt t (i : Int) == 92) = false := by simpa using h92
        rw [this, Bool.false_and]
    refine Ev.step step1 ?_
    have hf : fst (fun i => qc t c i || qo t b i) (t.size - i) i = if (qc t c i || qo t b i) = true then some i else fst (fun i => qc t c i || qo t b i) (t.size - (i + 1)) (i + 1) := by
      rw [show t.size - i = (t.size - (i + 1)) + 1 by omega]
      rfl
    by_cases hs : (bt t (i : Int) == 92 && markI (bt t ((i + 1 : Nat) : Int))) = true
    · rw [hs]
      rw [Bool.and_eq_true] at hs
      have h92 : bt t (i : Int) = 92 := by simpa using hs.1
      have t1 : tak t (i + 1) = true := by rw [tak_succ t i hi, hk, hs.1, hs.2]; rfl
      have t2 : tak t (i + 1 + 1) = false := by rw [tak_succ t (i + 1) (by omega), t1]; rfl
      have h1 : i + 1 < t.size := by
        by_cases h : i + 1 < t.size
        · exact h
        · rw [bt_out t (i + 1) (by omega)] at hs
          simp [markI] at hs
      have q0 : (qc t c i || qo t b i) = false := by
        unfold qc qo
        rw [h92, hb92]
        simp; omega
      have q1 : (qc t c (i + 1) || qo t b (i + 1)) = false := by
        unfold qc qo
        rw [t1]; simp
      have e : fst (fun i => qc t c i || qo t b i) (t.size - i) i = fst (fun i => qc t c i || qo t b i) (t.size - (i + 1 + 1)) (i + 1 + 1) := by
        rw [hf, if_neg (by rw [q0]; simp), show t.size - (i + 1) = (t.size - (i + 1 + 1)) + 1 by omega]
        show (if (qc t c (i + 1) || qo t b (i + 1)) = true then _ else _) = _
        rw [if_neg (by rw [q1]; simp)]
      rw [e]
      refine Ev.step (f := fun k => mdlabel_within.l0 k t c bar ((i + 1 + 1 : Nat) : Int)) (fun k => ?_) (ih (m - 2) (by omega) (i + 1 + 1) (by omega) (by omega) t2)
      simp only [mdlabel_within.j1, if_true]
      rw [w64 (x := (i : Int) + 1) (by omega) (by omega), w64 (by omega) (by omega)]
      rfl
    · have hs' : (bt t (i : Int) == 92 && markI (bt t ((i + 1 : Nat) : Int))) = false := by simpa using hs
      have t1 : tak t (i + 1) = false := by rw [tak_succ t i hi, hk, Bool.not_false, Bool.true_and, hs']
      rw [hs']
      by_cases h : bt t (i : Int) = c
      · have q : qc t c i = true := by unfold qc; rw [hk, h]; simp
        rw [hf, if_pos (by rw [q]; rfl)]
        simp only
        rw [if_pos q]
        refine Ev.step (f := fun _ => some (((i + 1 : Nat) : Int), true)) (fun k => ?_) (Ev.now _)
        simp only [mdlabel_within.j1, Bool.false_eq_true, if_false]
        rw [if_pos h, w64 (by omega) (by omega)]
        rfl
      · have q : qc t c i = false := by unfold qc; rw [hk]; simp [h]
        obtain ⟨r, hr1, hr2⟩ := hb (bt t (i : Int)) hr.1 hr.2
        by_cases ho : b (bt t (i : Int)) = true
        · have q2 : qo t b i = true := by unfold qo; rw [hk, ho]; rfl
          rw [hf, if_pos (by rw [q, q2]; rfl)]
          simp only
          rw [if_neg (by rw [q]; simp)]
          refine Ev.step (f := fun _ => some (0, false)) (fun k => ?_) (Ev.now _)
          simp only [mdlabel_within.j1, Bool.false_eq_true, if_false]
          rw [if_neg h, hr1]
          simp only [Option.bind_some]
          rw [if_pos (hr2.2 ho)]
        · have q2 : qo t b i = false := by unfold qo; rw [hk]; simpa using ho
          rw [hf, if_neg (by rw [q, q2]; simp)]
          refine Ev.step (f := fun k => mdlabel_within.l0 k t c bar ((i + 1 : Nat) : Int)) (fun k => ?_) (ih (m - 1) (by omega) (i + 1) (by omega) (by omega) t1)
          simp only [mdlabel_within.j1, Bool.false_eq_true, if_false]
          rw [if_neg h, hr1]
          simp only [Option.bind_some]
          rw [if_neg (fun hh => ho (hr2.1 hh)), w64 (by omega) (by omega)]
          rfl
def wans (w : Option Nat) : Int × Bool := match w with | none => (0, false) | some m => ((m : Int), true)
theorem within_val (t bar : ByteArray) (c : Int) (b : Int → Bool) (hb : Bars bar b) (hc : c ≠ 92) (hb92 : b 92 = false) (ht : t.size ≤ 4294967296) :
    Ev (fun k => mdlabel_within.f k t c bar) (wans (wth t c b)) := by
  have h := within_loop t bar c b hb hc hb92 ht t.size 1 (by omega) (by omega) (tak_one t)
  have e : wans (wth t c b) = (match fst (fun i => qc t c i || qo t b i) (t.size - 1) 1 with | none => (0, false) | some j => if qc t c j = true then (((j + 1 : Nat) : Int), true) else (0, false)) := by
    unfold wth wans
    cases fst (fun i => qc t c i || qo t b i) (t.size - 1) 1 with
    | none => rfl
    | some j => by_cases hq : qc t c j = true <;> simp [hq]
  rw [e]
  exact h

/-! ### the reference's search -/
/-- A part of a line: its bytes, by the line's. -/
structure Part (line t : ByteArray) (a : Nat) : Prop where
  sz : a + t.size ≤ line.size
  by_ : ∀ i : Nat, i < t.size → bt line ((a + i : Nat) : Int) = bt t (i : Int)
theorem part_of (line : ByteArray) (a e : Nat) (h : a ≤ e) (he : e ≤ line.size) : Part line (line.extract a e) a := by
  have hs := size_ext line a e he
  exact ⟨by omega, fun i hi => (bt_ext line a e i he (by omega)).symm⟩

theorem taken_loop (line t : ByteArray) (a : Nat) (hp : Part line t a) (hl : line.size ≤ 4294967296) (i : Nat) (hi : i < t.size) :
    ∀ (m j : Nat), 0 < j → j + m = i + 1 → Ev (fun k => indentureref17_Taken.l0 k line ((a + 1 : Nat) : Int) ((a + i : Nat) : Int) ((a + t.size : Nat) : Int) (tak t (j - 1)) ((a + j : Nat) : Int)) (tak t i)
  | 0, j, hj, hm => by
    refine Ev.step (f := fun _ => some (tak t i)) (fun k => ?_) (Ev.now _)
    simp only [indentureref17_Taken.l0]
    rw [if_neg (by omega), show j - 1 = i by omega]
  | m + 1, j, hj, hm => by
    have hsz := hp.sz
    have ih := taken_loop line t a hp hl i hi m (j + 1) (by omega) (by omega)
    refine Ev.step (f := fun k => indentureref17_Taken.l0 k line ((a + 1 : Nat) : Int) ((a + i : Nat) : Int) ((a + t.size : Nat) : Int) (tak t (j + 1 - 1)) ((a + (j + 1) : Nat) : Int)) (fun k => ?_) ih
    simp only [indentureref17_Taken.l0]
    have e : wrap64 (((a + j : Nat) : Int) + 1) = ((a + (j + 1) : Nat) : Int) := by rw [w64 (by omega) (by omega)]; omega
    rw [if_pos (by omega), if_pos (by omega), e, Nat.add_sub_cancel]
    by_cases h1 : j = 1
    · subst h1
      rw [if_neg (by omega), tak_one]
    · rw [if_pos (by omega)]
      obtain ⟨q, rfl⟩ : ∃ q, j = q + 1 := ⟨j - 1, by omega⟩
      rw [Nat.add_sub_cancel, tak_succ t q (by omega)]
      by_cases hq : tak t q = true
      · rw [hq, if_pos rfl]; rfl
      · have hq' : tak t q = false := by simpa using hq
        rw [hq', if_neg (by simp), w64 (by omega) (by omega), if_pos (by omega), if_pos (by omega), show ((a + (q + 1) : Nat) : Int) - 1 = ((a + q : Nat) : Int) by omega, hp.by_ q (by omega)]
        by_cases h92 : bt t (q : Int) = 92
        · rw [if_pos h92, if_pos (by omega), if_pos (by omega), mark_r, hp.by_ (q + 1) (by omega)]
          simp [h92]
        · have : (bt t (q : Int) == 92) = false := by simpa using h92
          rw [if_neg h92, this]
          simp
theorem taken_val (line t : ByteArray) (a : Nat) (hp : Part line t a) (hl : line.size ≤ 4294967296) (i : Nat) (h0 : 0 < i) (hi : i < t.size) :
    Ev (fun k => indentureref17_Taken.f k line ((a + 1 : Nat) : Int) ((a + i : Nat) : Int) ((a + t.size : Nat) : Int)) (tak t i) :=
  taken_loop line t a hp hl i hi i 1 (by omega) (by omega)
def fans (a : Nat) (w : Option Nat) : Int := match w with | none => -1 | some j => ((a + j : Nat) : Int)
theorem find_loop (line t : ByteArray) (a : Nat) (hp : Part line t a) (hl : line.size ≤ 4294967296) (c : Int) :
    ∀ (m j : Nat), 0 < j → j + m = t.size → Ev (fun k => indentureref17_find.l0 k line (a : Int) ((a + t.size : Nat) : Int) c ((a + j : Nat) : Int)) (fans a (fst (qc t c) m j))
  | 0, j, hj, hm => by
    refine Ev.step (f := fun _ => some (-1)) (fun k => ?_) (Ev.now _)
    simp only [indentureref17_find.l0]
    rw [if_neg (by omega)]
  | m + 1, j, hj, hm => by
    have hsz := hp.sz
    have ih := find_loop line t a hp hl c m (j + 1) (by omega) (by omega)
    have e : wrap64 (((a + j : Nat) : Int) + 1) = ((a + (j + 1) : Nat) : Int) := by rw [w64 (by omega) (by omega)]; omega
    have e1 : wrap64 ((a : Int) + 1) = ((a + 1 : Nat) : Int) := by rw [w64 (by omega) (by omega)]; omega
    have hb := hp.by_ j (by omega)
    by_cases h : bt t (j : Int) = c
    · refine Ev.step (f := fun k => (indentureref17_Taken.f k line ((a + 1 : Nat) : Int) ((a + j : Nat) : Int) ((a + t.size : Nat) : Int)).bind fun x => if x = true then indentureref17_find.l0 k line (a : Int) ((a + t.size : Nat) : Int) c ((a + (j + 1) : Nat) : Int) else some ((a + j : Nat) : Int)) (fun k => ?_) (Ev.bind (taken_val line t a hp hl j hj (by omega)) ?_)
      · simp only [indentureref17_find.l0]
        rw [if_pos (by omega), if_pos (by omega), if_pos (by omega), hb, if_pos h, e, e1]
      · by_cases hk : tak t j = true
        · rw [hk]
          have : fst (qc t c) (m + 1) j = fst (qc t c) m (j + 1) := by
            show (if qc t c j = true then _ else _) = _
            rw [if_neg (by unfold qc; rw [hk]; simp)]
          rw [this]
          simp only [if_true]
          exact ih
        · have hk' : tak t j = false := by simpa using hk
          have : fst (qc t c) (m + 1) j = some j := by
            show (if qc t c j = true then _ else _) = _
            rw [if_pos (by unfold qc; rw [hk', h]; simp)]
          rw [this, hk']
          simp only [Bool.false_eq_true, if_false]
          exact Ev.now _
    · have : fst (qc t c) (m + 1) j = fst (qc t c) m (j + 1) := by
        show (if qc t c j = true then _ else _) = _
        rw [if_neg (by unfold qc; simp [h])]
      rw [this]
      refine Ev.step (f := fun k => indentureref17_find.l0 k line (a : Int) ((a + t.size : Nat) : Int) c ((a + (j + 1) : Nat) : Int)) (fun k => ?_) ih
      simp only [indentureref17_find.l0]
      rw [if_pos (by omega), if_pos (by omega), if_pos (by omega), hb, if_neg h, e]
theorem find_val (line t : ByteArray) (a : Nat) (hp : Part line t a) (hl : line.size ≤ 4294967296) (ht : 0 < t.size) (c : Int) :
    Ev (fun k => indentureref17_find.f k line (a : Int) ((a + t.size : Nat) : Int) c) (fans a (fst (qc t c) (t.size - 1) 1)) := by
  have hsz := hp.sz
  have e1 : wrap64 ((a : Int) + 1) = ((a + 1 : Nat) : Int) := by rw [w64 (by omega) (by omega)]; omega
  have := find_loop line t a hp hl c (t.size - 1) 1 (by omega) (by omega)
  refine Ev.congr (f := fun k => indentureref17_find.l0 k line (a : Int) ((a + t.size : Nat) : Int) c ((a + 1 : Nat) : Int)) (fun k => ?_) this
  unfold indentureref17_find.f
  rw [e1]

/-- The two ways to say it. -/
theorem wth_eq (t : ByteArray) (c d : Int) (hcd : c ≠ d) :
    wth t c (fun x => x == d) = match fst (qc t c) (t.size - 1) 1 with
      | none => none
      | some j => match fst (qc t d) (t.size - 1) 1 with
        | none => some (j + 1)
        | some o => if o < j then none else some (j + 1) := by
  have both : ∀ i, qc t c i = true → qc t d i = true → False := by
    intro i h1 h2
    unfold qc at h1 h2
    simp at h1 h2
    omega
  have qd : ∀ i, qo t (fun x => x == d) i = qc t d i := fun i => rfl
  unfold wth
  cases hC : fst (qc t c) (t.size - 1) 1 with
  | none =>
    simp only
    cases hO : fst (qc t d) (t.size - 1) 1 with
    | none =>
      rw [fst_no fun k h1 h2 => by rw [fst_none hC k h1 h2, qd, fst_none hO k h1 h2]; rfl]
    | some o =>
      obtain ⟨a1, a2, a3, a4⟩ := fst_some hO
      rw [fst_eq (q := fun i => qc t c i || qo t (fun x => x == d) i) (j := o) a1 a2 (by simp only [qd, a3, Bool.or_true]) (fun k h1 h2 => by simp only [qd, a4 k h1 h2, fst_none hC k h1 (by omega), Bool.or_self])]
      simp only
      rw [if_neg (by rw [fst_none hC o a1 a2]; simp)]
  | some j =>
    obtain ⟨b1, b2, b3, b4⟩ := fst_some hC
    simp only
    cases hO : fst (qc t d) (t.size - 1) 1 with
    | none =>
      rw [fst_eq (q := fun i => qc t c i || qo t (fun x => x == d) i) (j := j) b1 b2 (by simp only [b3, Bool.true_or]) (fun k h1 h2 => by simp only [qd, b4 k h1 h2, fst_none hO k h1 (by omega), Bool.or_self])]
      simp only
      rw [if_pos b3]
    | some o =>
      obtain ⟨a1, a2, a3, a4⟩ := fst_some hO
      by_cases ho : o < j
      · rw [fst_eq (q := fun i => qc t c i || qo t (fun x => x == d) i) (j := o) a1 a2 (by simp only [qd, a3, Bool.or_true]) (fun k h1 h2 => by simp only [qd, a4 k h1 h2, b4 k h1 (by omega), Bool.or_self])]
        simp only
        rw [if_neg (by rw [b4 o a1 ho]; simp), if_pos ho]
      · have hne : o ≠ j := fun e => both j b3 (by rw [← e]; exact a3)
        rw [fst_eq (q := fun i => qc t c i || qo t (fun x => x == d) i) (j := j) b1 b2 (by simp only [b3, Bool.true_or]) (fun k h1 h2 => by simp only [qd, b4 k h1 h2, a4 k h1 (by omega), Bool.or_self])]
        simp only
        rw [if_pos b3, if_neg ho]
theorem wth_none (t : ByteArray) (c : Int) : wth t c (fun _ => false) = match fst (qc t c) (t.size - 1) 1 with | none => none | some j => some (j + 1) := by
  unfold wth
  have e : (fun i => qc t c i || qo t (fun _ => false) i) = qc t c := by
    funext i
    simp [qo]
  rw [e]
  cases hC : fst (qc t c) (t.size - 1) 1 with
  | none => rfl
  | some j =>
    simp only
    rw [if_pos (fst_some hC).2.2.1]

/-! ### what the chapter's functions answer, of the bytes t that are read from a on -/
def rdS (t : ByteArray) (a : Nat) : Int × Bool :=
  if bt t 0 = 91 then
    match wth t 93 (fun x => x == 91) with
    | none => (0, false)
    | some m => if m > 202 then (0, false) else if (foldS (t.extract 1 (m - 1))).toList = ([] : List UInt8) then (0, false) else (((a + m : Nat) : Int), true)
  else (0, false)
def dsS (t : ByteArray) (a : Nat) : Int × Bool :=
  if bt t 0 = 60 then
    match wth t 62 (fun x => x == 60) with
    | none => (0, false)
    | some m => (((a + m : Nat) : Int), true)
  else if far (fun i => decide (bt t (i : Int) > 32) && bt t (i : Int) != 127) t.size 0 = 0 then (0, false)
  else (((a + far (fun i => decide (bt t (i : Int) > 32) && bt t (i : Int) != 127) t.size 0 : Nat) : Int), true)
def tiS (t : ByteArray) (a : Nat) : Int × Bool :=
  match (if bt t 0 = 34 ∨ bt t 0 = 39 then wth t (bt t 0) (fun _ => false) else if bt t 0 = 40 then wth t 41 (fun x => x == 40) else none) with
  | none => (0, false)
  | some m => (((a + m : Nat) : Int), true)
def skS (t : ByteArray) (a : Nat) : Int := ((a + far (fun i => blankI (bt t (i : Int))) t.size 0 : Nat) : Int)

/-- The place lies ahead of what bounds the reading. -/
theorem part_val (line : ByteArray) (hl : line.size ≤ 4294967296) (x y : Int) :
    mdlabel_part.f line x y = some (if 0 ≤ x ∧ x < mn y (endN line) then ((line.extract x.toNat (mn y (endN line)).toNat), true) else (⟨#[]⟩, false)) := by
  have he := endN_le line
  have hs := size_ext line 0 (endN line) he
  unfold mdlabel_part.f
  rw [ahead_val line (by omega)]
  simp only [Option.bind_some]
  rw [hs, Nat.sub_zero]
  have hm : mn y (endN line) ≤ (endN line : Int) := by unfold mn; omega
  by_cases h1 : x < 0
  · rw [if_pos h1, if_neg (by omega)]
  · rw [if_neg h1]
    by_cases h2 : x ≥ mn y (endN line)
    · rw [if_pos h2, if_neg (by omega)]
    · rw [if_neg h2, if_pos (by omega), if_pos (by omega), if_pos hm, if_pos ⟨by omega, by omega⟩, ext_ext line 0 (endN line) _ _ (by omega) he]
      simp
theorem bound_val (line : ByteArray) (hl : line.size ≤ 4294967296) (x y : Int) :
    Ev (fun k => indentureref17_bound.f k line x y) (mn y (endN line), decide (0 ≤ x ∧ x < mn y (endN line))) := by
  refine Ev.congr (f := fun k => (indentureref11_End.f k line).bind fun t => some (mn y t, decide (0 ≤ x ∧ x < mn y t))) (fun k => ?_) (Ev.bind (end_val line (by omega)) (Ev.now _))
  unfold indentureref17_bound.f
  congr 1
  funext t
  unfold mn
  by_cases h : y < t
  · rw [if_pos h]
    by_cases h1 : x ≥ 0
    · rw [if_pos h1]
      congr 2
      · omega
      · exact decide_eq_decide.2 (by omega)
    · rw [if_neg h1]
      congr 2
      · omega
      · exact (decide_eq_false (by omega)).symm
  · rw [if_neg h]
    by_cases h1 : x ≥ 0
    · rw [if_pos h1]
      congr 2
      · omega
      · exact decide_eq_decide.2 (by omega)
    · rw [if_neg h1]
      congr 2
      · omega
      · exact (decide_eq_false (by omega)).symm
end Go.Proofs.Ytlmhdiienpebfaa.Pure
