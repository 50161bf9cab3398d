/- Plain lemmas: what stands at a place of a line, as the program's and the document's printed functions find it: the line ahead of its end, blanks, rows, the last place. Conditions: texts of at most 2^32 bytes, or as each theorem names. -/
import Derived.Test.YtgeddemohcbojaaDoorLibA
import Derived.Test.YtgeddemohcbojaaDoorHandU
import Derived.Test.YtgeddemohcbojaaDoorQ7
import Derived.Test.YtgeddemohcbojaaDoorQ8
import Derived.Test.YtgeddemohcbojaaDoorQ9
import Derived.Test.YtgeddemohcbojaaDoorQ10
import Derived.Test.YtgeddemohcbojaaDoorQ11
import Derived.Test.YtgeddemohcbojaaDoorQ12
namespace Go.Proofs.YtgeddemohcbojaaDoor.Pure
open Go.RowKit Go.Proofs.YtgeddemohcbojaaDoor.P Go.Proofs.YtgeddemohcbojaaDoorW.PrintWords Go.Proofs.YtgeddemohcbojaaDoorW.PrintLast
set_option linter.unusedVariables false
set_option linter.unusedSimpArgs false

theorem ev_pos {α : Type} {c : Prop} [Decidable c] {f g : Nat → Option α} {r : α} (h : c) (k : Ev f r) : Ev (fun n => if c then f n else g n) r :=
  Ev.congr (fun n => by rw [if_pos h]) k
theorem ev_neg {α : Type} {c : Prop} [Decidable c] {f g : Nat → Option α} {r : α} (h : ¬ c) (k : Ev g r) : Ev (fun n => if c then f n else g n) r :=
  Ev.congr (fun n => by rw [if_neg h]) k
/-- The line ahead of its end. -/
def hd (s : ByteArray) : ByteArray := s.extract 0 (endN s)
theorem hd_size (s : ByteArray) : (hd s).size = endN s := by unfold hd; rw [size_ext s 0 _ (endN_le s)]; omega
theorem hd_bt (s : ByteArray) (i : Nat) (h : i < endN s) : bt (hd s) (i : Int) = bt s (i : Int) := by
  unfold hd
  rw [bt_ext s 0 _ i (endN_le s) (by omega), Nat.zero_add]
theorem ahead_val (s : ByteArray) (x : Int) (hs : s.size ≤ 140737488355328) : mdmark_ahead.f s x = some (hd s, decide (0 ≤ x ∧ x < ((hd s).size : Int))) := by
  have key : ∀ t : ByteArray, (if x ≥ 0 then (some (t, decide (x < (t.size : Int)))) else (some (t, false))) = some (t, decide (0 ≤ x ∧ x < (t.size : Int))) := by
    intro t
    by_cases h : x ≥ 0
    · rw [if_pos h]
      by_cases h2 : x < (t.size : Int)
      · rw [decide_eq_true h2, decide_eq_true ⟨h, h2⟩]
      · rw [decide_eq_false h2, decide_eq_false fun h' => h2 h'.2]
    · rw [if_neg h, decide_eq_false fun h' => h h'.1]
  unfold mdmark_ahead.f
  rcases cut_lf s hs with ⟨h1, h2⟩ | ⟨i, h1, h2⟩
  · have e : endN s = s.size := by unfold endN; rw [h1]
    have e2 : hd s = s := by unfold hd; rw [e, ext_all]
    rw [h2]
    simp only [Option.bind_some]
    rw [if_neg (by simp), key, e2]
  · have e : endN s = if 0 < i ∧ bt s ((i - 1 : Nat) : Int) = 13 then i - 1 else i := by unfold endN; rw [h1]
    have hi := (fst_some h1).2.1
    rw [h2]
    simp only [Option.bind_some, if_true]
    rw [trim_cr s i (by omega) hs, Option.bind_some, key]
    unfold hd
    rw [e]
theorem end_loop (s : ByteArray) (hs : s.size ≤ 140737488355328) : ∀ (m j : Nat), j + m = s.size → (∀ i : Nat, i < j → bt s (i : Int) ≠ 10) → Ev (fun k => indentureref11_End.l0 k s j) ((endN s : Nat) : Int)
  | 0, j, hj, hn => by
    refine Ev.step (f := fun _ => some ((s.size : Nat) : Int)) (fun k => ?_) ?_
    · simp only [indentureref11_End.l0]
      rw [if_neg (by omega)]
    · rw [endN_none fun i hi => hn i (by omega)]
      exact Ev.now _
  | m + 1, j, hj, hn => by
    by_cases h : bt s (j : Int) = 10
    · have hf : fst (fun i => bt s (i : Int) == 10) s.size 0 = some j := fst_eq (Nat.zero_le _) (by omega) (by simpa using h) (fun k _ hk => by simpa using hn k hk)
      have e : endN s = if 0 < j ∧ bt s ((j - 1 : Nat) : Int) = 13 then j - 1 else j := by unfold endN; rw [hf]
      refine Ev.step (f := fun _ => some ((endN s : Nat) : Int)) (fun k => ?_) (Ev.now _)
      simp only [indentureref11_End.l0]
      rw [if_pos (by omega), if_pos (by omega), if_pos h, e]
      by_cases h0 : 0 < j
      · rw [if_pos (by omega), w64 (by omega) (by omega), if_pos (by omega), if_pos (by omega), show (j : Int) - 1 = ((j - 1 : Nat) : Int) by omega]
        by_cases h13 : bt s ((j - 1 : Nat) : Int) = 13
        · rw [if_pos h13, if_pos ⟨h0, h13⟩]
        · rw [if_neg h13, if_neg (fun h => h13 h.2)]
      · rw [if_neg (by omega), if_neg (fun h => h0 h.1)]
    · refine Ev.step (f := fun k => indentureref11_End.l0 k s ((j + 1 : Nat) : Int)) (fun k => ?_) (end_loop s hs m (j + 1) (by omega) fun i hi => ?_)
      · simp only [indentureref11_End.l0]
        rw [if_pos (by omega), if_pos (by omega), if_neg h, w64 (by omega) (by omega), Int.natCast_add]
        rfl
      · by_cases e : i = j
        · rw [e]; exact h
        · exact hn i (by omega)
theorem end_val (s : ByteArray) (hs : s.size ≤ 140737488355328) : Ev (fun k => indentureref11_End.f k s) ((endN s : Nat) : Int) :=
  end_loop s hs s.size 0 (by omega) fun i hi => by omega

/-! ### rows, from both sides -/
/-- From the end of m places on, back to the first behind which something holds. -/
def back (q : Nat → Bool) : Nat → Nat → Nat
  | 0, lo => lo
  | m + 1, lo => if q (lo + m) then back q m lo else lo + m + 1
theorem back_prop {q : Nat → Bool} : ∀ (m lo : Nat), lo ≤ back q m lo ∧ back q m lo ≤ lo + m ∧ (∀ k, back q m lo ≤ k → k < lo + m → q k = true) ∧ (lo < back q m lo → q (back q m lo - 1) = false)
  | 0, lo => by simp [back]; omega
  | m + 1, lo => by
    have ih := back_prop (q := q) m lo
    unfold back
    by_cases hk : q (lo + m) = true
    · rw [if_pos hk]
      refine ⟨ih.1, by omega, fun k h1 h2 => ?_, ih.2.2.2⟩
      by_cases e : k = lo + m
      · rw [e]; exact hk
      · exact ih.2.2.1 k h1 (by omega)
    · rw [if_neg hk]
      exact ⟨by omega, by omega, fun k h1 h2 => by omega, fun _ => by rw [show lo + m + 1 - 1 = lo + m by omega]; simpa using hk⟩
theorem back_eq {q : Nat → Bool} {m lo r : Nat} (h1 : lo ≤ r) (h2 : r ≤ lo + m) (h3 : ∀ k, r ≤ k → k < lo + m → q k = true) (h4 : lo < r → q (r - 1) = false) : back q m lo = r := by
  obtain ⟨a, b, c, d⟩ := back_prop (q := q) m lo
  by_cases e : r < back q m lo
  · have := d (by omega)
    rw [h3 _ (by omega) (by omega)] at this; cases this
  · by_cases e2 : back q m lo < r
    · have := c (r - 1) (by omega) (by omega)
      rw [h4 (by omega)] at this; cases this
    · omega
theorem back_congr {q q' : Nat → Bool} {m lo : Nat} (h : ∀ k, lo ≤ k → k < lo + m → q k = q' k) : back q m lo = back q' m lo := by
  obtain ⟨a, b, c, d⟩ := back_prop (q := q') m lo
  exact back_eq a b (fun k h1 h2 => (h k (by omega) h2).trans (c k h1 h2)) (fun h' => (h _ (by omega) (by omega)).trans (d h'))
theorem back_shift {q q' : Nat → Bool} {m lo a : Nat} (h : ∀ k, lo ≤ k → k < lo + m → q k = q' (a + k)) : a + back q m lo = back q' m (a + lo) := by
  obtain ⟨b1, b2, b3, b4⟩ := back_prop (q := q) m lo
  refine (back_eq (by omega) (by omega) (fun k h1 h2 => ?_) (fun h' => ?_)).symm
  · have := b3 (k - a) (by omega) (by omega)
    rwa [h _ (by omega) (by omega), show a + (k - a) = k by omega] at this
  · have := b4 (by omega)
    rwa [h _ (by omega) (by omega), show a + (back q m lo - 1) = a + back q m lo - 1 by omega] at this
theorem far_shift {q q' : Nat → Bool} {m lo a : Nat} (h : ∀ k, lo ≤ k → k < lo + m → q k = q' (a + k)) : a + far q m lo = far q' m (a + lo) := by
  obtain ⟨b1, b2, b3, b4⟩ := far_prop (q := q) m lo
  refine (far_eq (by omega) (by omega) (fun k h1 h2 => ?_) (fun h' => ?_)).symm
  · have := b3 (k - a) (by omega) (by omega)
    rwa [h _ (by omega) (by omega), show a + (k - a) = k by omega] at this
  · have := b4 (by omega)
    rwa [h _ (by omega) (by omega)] at this
theorem stretch_far (p : Nat → Bool) : ∀ (m k : Nat), stretch p m k = far p m k
  | 0, k => rfl
  | m + 1, k => by unfold stretch far; rw [stretch_far p m (k + 1)]

theorem row_at (t : ByteArray) (p : Int → Bool) (q : Nat → Bool) (a : Nat) (h : ∀ i : Nat, q i = p (bt t (i : Int))) : P.far p t a = far q (t.size - a) a := by
  unfold P.far
  rw [stretch_far]
  exact far_congr fun k _ _ => (h k).symm
theorem idx3 (x y z : UInt8) (b : Int) (h : 0 ≤ b ∧ b ≤ 255) : 0 ≤ Lib.indexByte [x, y, z] b.toNat.toUInt8 ↔ (b = x.toNat ∨ b = y.toNat ∨ b = z.toNat) := by
  have key : ∀ u : UInt8, (u == b.toNat.toUInt8) = decide (b = u.toNat) := by
    intro u
    by_cases e : b = u.toNat
    · rw [decide_eq_true e]
      have : b.toNat.toUInt8 = u := by
        apply UInt8.toNat_inj.1
        have hu := u.toNat_lt
        simp; omega
      rw [this]; simp
    · rw [decide_eq_false e]
      have : ¬ u = b.toNat.toUInt8 := fun e' => e (by
        have := congrArg UInt8.toNat e'
        simp at this; omega)
      simpa using this
  unfold Lib.indexByte Lib.indexByte Lib.indexByte Lib.indexByte
  rw [key, key, key]
  by_cases h1 : b = x.toNat
  · simp [h1]
  · by_cases h2 : b = y.toNat
    · simp [h1, h2]; (repeat' split) <;> omega
    · by_cases h3 : b = z.toNat
      · simp [h1, h2, h3]; (repeat' split) <;> omega
      · simp [h1, h2, h3]

/-! ### blanks, the last place -/
def blankI (x : Int) : Bool := x == 32 || x == 9
/-- A cutset tells just the bytes for which p holds. -/
def Tells (cs : List UInt8) (p : Int → Bool) : Prop := ∀ b : UInt8, cs.contains b = p (b.toNat : Int)
theorem tells_blank : Tells [32, 9] blankI := by
  intro b
  by_cases e1 : b = 32
  · subst e1; decide
  by_cases e2 : b = 9
  · subst e2; decide
  have n1 : b.toNat ≠ 32 := fun e => e1 (UInt8.toNat_inj.1 e)
  have n2 : b.toNat ≠ 9 := fun e => e2 (UInt8.toNat_inj.1 e)
  have h1 : blankI (b.toNat : Int) = false := by
    unfold blankI
    rw [show ((b.toNat : Int) == 32) = false by simp; omega, show ((b.toNat : Int) == 9) = false by simp; omega]; rfl
  rw [h1]
  simp [e1, e2]
theorem tells_hash : Tells [35] (fun x => x == 35) := by
  intro b
  by_cases e1 : b = 35
  · subst e1; decide
  have n1 : b.toNat ≠ 35 := fun e => e1 (UInt8.toNat_inj.1 e)
  show [35].contains b = ((b.toNat : Int) == 35)
  rw [show ((b.toNat : Int) == 35) = false by simp; omega]
  simp [e1]
theorem trimR_val (s c : ByteArray) (p : Int → Bool) (hc : Tells c.data.toList p) (ha : asciiSet c = true) (hs : s.size ≤ 140737488355328) :
    strings_TrimRight.f s c = some (s.extract 0 (back (fun i => p (bt s (i : Int))) s.size 0)) := by
  unfold strings_TrimRight.f
  rw [if_pos ⟨ha, hs⟩]
  congr 1
  apply ext_list
  obtain ⟨a, b, d, e⟩ := back_prop (q := fun i => p (bt s (i : Int))) s.size 0
  rw [extract_list, List.drop_zero, Nat.sub_zero]
  refine Lib.trimRightS_take _ _ _ (by rw [len_eq]; omega) (fun j x hj hx => ?_) (fun x hk hx => ?_)
  · obtain ⟨hl, rfl⟩ := List.getElem?_eq_some_iff.1 hx
    rw [hc, ← bt_list s j hl]
    exact d j hj (by rw [len_eq] at hl; omega)
  · obtain ⟨hl, rfl⟩ := List.getElem?_eq_some_iff.1 hx
    rw [hc, ← bt_list s _ hl]
    exact e hk
theorem trimL_val (s c : ByteArray) (p : Int → Bool) (hc : Tells c.data.toList p) (ha : asciiSet c = true) :
    strings_TrimLeft.f s c = some (s.extract (far (fun i => p (bt s (i : Int))) s.size 0) s.size) := by
  unfold strings_TrimLeft.f
  rw [if_pos ha]
  congr 1
  apply ext_list
  obtain ⟨a, b, d, e⟩ := far_prop (q := fun i => p (bt s (i : Int))) s.size 0
  rw [extract_list]
  refine (Lib.trimLeftS_drop _ _ (far (fun i => p (bt s (i : Int))) s.size 0) (by rw [len_eq]; omega) (fun j x hj hx => ?_) (fun x hx => ?_)).trans ?_
  · obtain ⟨hl, rfl⟩ := List.getElem?_eq_some_iff.1 hx
    rw [hc, ← bt_list s j hl]
    exact d j (by omega) hj
  · obtain ⟨hl, rfl⟩ := List.getElem?_eq_some_iff.1 hx
    rw [hc, ← bt_list s _ hl]
    exact e (by rw [len_eq] at hl; omega)
  · rw [List.take_of_length_le]
    rw [List.length_drop, len_eq]
    exact Nat.le_refl _
theorem set_blank : asciiSet ⟨#[32, 9]⟩ = true := by decide
theorem set_hash : asciiSet ⟨#[35]⟩ = true := by decide
/-- The last place from a place on. -/
def lastN (t : ByteArray) (a : Nat) : Nat := back (fun i => blankI (bt t (i : Int))) (t.size - a) a
theorem lastN_prop (t : ByteArray) (a : Nat) (h : a ≤ t.size) : a ≤ lastN t a ∧ lastN t a ≤ t.size ∧ (∀ k : Nat, lastN t a ≤ k → k < t.size → blankI (bt t (k : Int)) = true) ∧ (a < lastN t a → blankI (bt t ((lastN t a - 1 : Nat) : Int)) = false) := by
  obtain ⟨b1, b2, b3, b4⟩ := back_prop (q := fun i => blankI (bt t (i : Int))) (t.size - a) a
  exact ⟨b1, by unfold lastN; omega, fun k h1 h2 => b3 k h1 (by omega), b4⟩
theorem last_p (t : ByteArray) (a : Nat) (ha : a ≤ t.size) (hs : t.size ≤ 4294967296) : mdmark_last.f t (a : Int) = some ((lastN t a : Nat) : Int) := by
  unfold mdmark_last.f
  rw [if_pos (by omega), if_pos (by omega), Int.toNat_natCast]
  have hz := size_ext t a t.size (Nat.le_refl _)
  rw [trimR_val _ _ _ tells_blank set_blank (by omega), Option.bind_some, hz]
  have hb := back_prop (q := fun i => blankI (bt (t.extract a t.size) (i : Int))) (t.size - a) 0
  have e : a + back (fun i => blankI (bt (t.extract a t.size) (i : Int))) (t.size - a) 0 = back (fun i => blankI (bt t (i : Int))) (t.size - a) (a + 0) :=
    back_shift fun k h1 h2 => by rw [bt_ext t a t.size k (Nat.le_refl _) (by omega)]
  rw [size_ext _ 0 _ (by omega), Nat.sub_zero, w64 (by omega) (by omega)]
  unfold lastN
  rw [← Int.natCast_add, e, Nat.add_zero]
theorem part_blank (b : Int) (h : 0 ≤ b ∧ b ≤ 255) : ∃ r, strings_IndexByte.f ⟨#[32, 9]⟩ b = some r ∧ decide (r ≥ 0) = blankI b := by
  refine ⟨_, rfl, ?_⟩
  show decide (Lib.indexByte [32, 9] b.toNat.toUInt8 ≥ 0) = blankI b
  by_cases h32 : b = 32
  · subst h32; decide
  · by_cases h9 : b = 9
    · subst h9; decide
    · have h1 : b.toNat.toUInt8 ≠ 32 := fun e => by have := congrArg UInt8.toNat e; simp at this; omega
      have h2 : b.toNat.toUInt8 ≠ 9 := fun e => by have := congrArg UInt8.toNat e; simp at this; omega
      unfold Lib.indexByte Lib.indexByte Lib.indexByte blankI
      have e1 : ((32 : UInt8) == b.toNat.toUInt8) = false := by simpa using Ne.symm h1
      have e2 : ((9 : UInt8) == b.toNat.toUInt8) = false := by simpa using Ne.symm h2
      have e3 : (b == 32) = false := by simpa using h32
      have e4 : (b == 9) = false := by simpa using h9
      simp [e1, e2, e3, e4]
theorem parted_p (t : ByteArray) (a : Nat) (ha : a ≤ t.size) : mdmark_parted.f t (a : Int) = some (decide (t.size ≤ a) || blankI (bt t (a : Int))) := by
  unfold mdmark_parted.f
  by_cases h : t.size ≤ a
  · rw [if_pos (by omega), decide_eq_true h]; rfl
  · rw [if_neg (by omega), if_pos (by omega), if_pos (by omega), decide_eq_false h]
    obtain ⟨r, hr, he⟩ := part_blank (bt t (a : Int)) (bt_pos t _)
    rw [hr, Option.bind_some, he]; rfl

/-! ### the document's side -/
theorem blank_r (c : Int) : indentureref18_Blank.f c = some (blankI c) := by
  unfold indentureref18_Blank.f blankI
  by_cases h : c = 32
  · rw [if_pos h, h]; rfl
  · rw [if_neg h, show (c == 32) = false by simpa using h]; rfl
variable (s : ByteArray) (hs : s.size ≤ 4294967296)
include hs
theorem outside_r (x : Int) : Ev (fun k => indentureref18_outside.f k s x) (!decide (0 ≤ x ∧ x < ((hd s).size : Int))) := by
  unfold indentureref18_outside.f
  rw [hd_size]
  by_cases h : x < 0
  · rw [decide_eq_false (by omega)]
    exact ev_pos h (Ev.now _)
  · refine ev_neg h (Ev.bind (end_val s (by omega)) ?_)
    by_cases h2 : x < (endN s : Int)
    · rw [decide_eq_true (show 0 ≤ x ∧ x < (endN s : Int) by omega), decide_eq_false (by omega)]
      exact Ev.now _
    · rw [decide_eq_false (show ¬ (0 ≤ x ∧ x < (endN s : Int)) by omega), decide_eq_true (by omega)]
      exact Ev.now _
theorem parted_r (a : Nat) (ha : a ≤ (hd s).size) : Ev (fun k => indentureref18_parted.f k s (a : Int)) (decide ((hd s).size ≤ a) || blankI (bt (hd s) (a : Int))) := by
  have hle := endN_le s
  have hz := hd_size s
  refine Ev.bind (end_val s (by omega)) ?_
  by_cases h : (hd s).size ≤ a
  · rw [decide_eq_true h]
    exact ev_pos (by omega) (Ev.now _)
  · rw [decide_eq_false h, hd_bt s a (by omega)]
    refine ev_neg (by omega) (ev_pos (by omega) (ev_pos (by omega) ?_))
    rw [blank_r]
    exact Ev.now _
theorem last_loop (a : Nat) : ∀ (m : Nat), a + m ≤ (hd s).size → Ev (fun k => indentureref18_Last.l0 k s a ((a + m : Nat) : Int)) ((back (fun i => blankI (bt (hd s) (i : Int))) m a : Nat) : Int)
  | 0, hm => by
    refine Ev.step (f := fun _ => some ((a : Nat) : Int)) (fun k => ?_) (Ev.now _)
    simp only [indentureref18_Last.l0]
    rw [if_neg (by omega)]; rfl
  | m + 1, hm => by
    have hle := endN_le s
    have hz := hd_size s
    have e : wrap64 (((a + (m + 1) : Nat) : Int) - 1) = ((a + m : Nat) : Int) := by rw [w64 (by omega) (by omega)]; omega
    refine Ev.step (fun k => by rw [indentureref18_Last.l0]) ?_
    rw [e]
    refine ev_pos (by omega) (ev_pos (by omega) (ev_pos (by omega) ?_))
    rw [blank_r, ← hd_bt s (a + m) (by omega)]
    refine Ev.bind (Ev.now _) ?_
    unfold back
    by_cases hb : blankI (bt (hd s) ((a + m : Nat) : Int)) = true
    · rw [if_pos hb]
      exact ev_pos hb (last_loop a m (by omega))
    · rw [if_neg hb]
      exact ev_neg hb (Ev.now _)
theorem last_r (a : Nat) (ha : a ≤ (hd s).size) : Ev (fun k => indentureref18_Last.f k s (a : Int)) ((lastN (hd s) a : Nat) : Int) := by
  have hz := hd_size s
  refine Ev.bind (end_val s (by omega)) ?_
  have := last_loop s hs a ((hd s).size - a) (by omega)
  rw [show a + ((hd s).size - a) = endN s by omega] at this
  exact this
/-- The place behind a row. -/
def behN (t : ByteArray) (a : Nat) : Nat := far (fun i => bt t (i : Int) == bt t (a : Int)) (t.size - a) a
omit hs in
theorem behN_prop (t : ByteArray) (a : Nat) (ha : a < t.size) : a < behN t a ∧ behN t a ≤ t.size ∧ (∀ k : Nat, a ≤ k → k < behN t a → bt t (k : Int) = bt t (a : Int)) ∧ (behN t a < t.size → bt t ((behN t a : Nat) : Int) ≠ bt t (a : Int)) := by
  obtain ⟨b1, b2, b3, b4⟩ := far_prop (q := fun i => bt t (i : Int) == bt t (a : Int)) (t.size - a) a
  have hne : behN t a ≠ a := by
    intro e
    have := b4 (by unfold behN at e; omega)
    unfold behN at e
    rw [e] at this
    simp at this
  refine ⟨by unfold behN at hne ⊢; omega, by unfold behN; omega, fun k h1 h2 => by simpa using b3 k h1 h2, fun h => ?_⟩
  have := b4 (by unfold behN at h; omega)
  show bt t ((far (fun i => bt t (i : Int) == bt t (a : Int)) (t.size - a) a : Nat) : Int) ≠ bt t (a : Int)
  simpa using this
theorem behind_loop (a : Nat) (ha : a < (hd s).size) : ∀ (m j : Nat), j + m = (hd s).size → Ev (fun k => indentureref18_behind.l0 k s a (j : Int)) ((far (fun i => bt (hd s) (i : Int) == bt (hd s) (a : Int)) m j : Nat) : Int)
  | 0, j, hj => by
    have hz := hd_size s
    refine Ev.step (fun k => by rw [indentureref18_behind.l0]) ?_
    exact Ev.bind (end_val s (by omega)) (ev_neg (by omega) (Ev.now _))
  | m + 1, j, hj => by
    have hle := endN_le s
    have hz := hd_size s
    refine Ev.step (fun k => by rw [indentureref18_behind.l0]) ?_
    refine Ev.bind (end_val s (by omega)) (ev_pos (by omega) (ev_pos (by omega) (ev_pos (by omega) (ev_pos (by omega) (ev_pos (by omega) ?_)))))
    rw [← hd_bt s j (by omega), ← hd_bt s a (by omega)]
    unfold far
    by_cases hb : bt (hd s) (j : Int) = bt (hd s) (a : Int)
    · rw [if_pos (by simpa using hb), w64 (by omega) (by omega), show (j : Int) + 1 = ((j + 1 : Nat) : Int) by omega]
      exact ev_pos hb (behind_loop a ha m (j + 1) (by omega))
    · rw [if_neg (by simpa using hb)]
      exact ev_neg hb (Ev.now _)
theorem behind_r (a : Nat) (ha : a < (hd s).size) : Ev (fun k => indentureref18_behind.f k s (a : Int)) ((behN (hd s) a : Nat) : Int) :=
  behind_loop s hs a ha ((hd s).size - a) a (by omega)
end Go.Proofs.YtgeddemohcbojaaDoor.Pure
