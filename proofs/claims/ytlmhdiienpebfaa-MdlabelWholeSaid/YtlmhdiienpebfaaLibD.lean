/- Plain lemmas: Read, Dest, Title, Skip as the program's printed functions and the document's answer them: one answer each. Conditions: texts of at most 2^32 bytes. -/
import Derived.Test.YtlmhdiienpebfaaLibC
namespace Go.Proofs.Ytlmhdiienpebfaa.Pure
open Go.RowKit Go.Proofs.Ytlmhdiienpebfaa.P Go.Proofs.YtlmhdiienpebfaaW.PrintWords Go.Proofs.YtlmhdiienpebfaaW.PrintLast
set_option linter.unusedVariables false
set_option linter.unusedSimpArgs false

theorem ev_pos {α : Type} {c : Prop} [Decidable c] {f g : Nat → Option α} {r : α} (h : c) (k : Ev f r) : Ev (fun n => if c then f n else g n) r :=
  Ev.congr (fun n => if_pos h) k
theorem ev_neg {α : Type} {c : Prop} [Decidable c] {f g : Nat → Option α} {r : α} (h : ¬ c) (k : Ev g r) : Ev (fun n => if c then f n else g n) r :=
  Ev.congr (fun n => if_neg h) k
theorem wans_none {w : Option Nat} (h : w = none) : wans w = (0, false) := by rw [h]; rfl
theorem wans_some {w : Option Nat} {m : Nat} (h : w = some m) : wans w = ((m : Int), true) := by rw [h]; rfl
theorem fans_none {a : Nat} {w : Option Nat} (h : w = none) : fans a w = -1 := by rw [h]; rfl
theorem fans_some {a m : Nat} {w : Option Nat} (h : w = some m) : fans a w = ((a + m : Nat) : Int) := by rw [h]; rfl
/-- The bytes that are read: t, from a on; there is one at least. -/
structure Cut (line : ByteArray) (x y : Int) (t : ByteArray) (a : Nat) : Prop where
  hx : x = (a : Int)
  ins : 0 ≤ x ∧ x < mn y (endN line)
  eq : line.extract x.toNat (mn y (endN line)).toNat = t
  part : Part line t a
  pos : 0 < t.size
  end_ : mn y (endN line) = ((a + t.size : Nat) : Int)
theorem cut_of (line : ByteArray) (x y : Int) (h : 0 ≤ x ∧ x < mn y (endN line)) : ∃ t a, Cut line x y t a := by
  have he := endN_le line
  have hm : mn y (endN line) ≤ (endN line : Int) := by unfold mn; split <;> omega
  have hs := size_ext line x.toNat (mn y (endN line)).toNat (by omega)
  exact ⟨_, x.toNat, by omega, h, rfl, part_of line _ _ (by omega) (by omega), by omega, by omega⟩
theorem wth_ge {t : ByteArray} {c : Int} {b : Int → Bool} {m : Nat} (h : wth t c b = some m) : 2 ≤ m ∧ m ≤ t.size ∧ qc t c (m - 1) = true := by
  unfold wth at h
  cases hf : fst (fun i => qc t c i || qo t b i) (t.size - 1) 1 with
  | none => rw [hf] at h; cases h
  | some j =>
    rw [hf] at h
    obtain ⟨h1, h2, _, _⟩ := fst_some hf
    by_cases hq : qc t c j = true
    · simp only [hq, if_true] at h
      obtain rfl := Option.some.inj h
      exact ⟨by omega, by omega, by rw [Nat.add_sub_cancel]; exact hq⟩
    · simp only [if_neg hq] at h; cases h

section
variable (line : ByteArray) (hl : line.size ≤ 4294967296) (x y : Int)
include hl

theorem part_in {t : ByteArray} {a : Nat} (h : Cut line x y t a) : mdlabel_part.f line x y = some (t, true) := by
  rw [part_val line hl, if_pos h.ins, h.eq]
theorem part_out (h : ¬ (0 ≤ x ∧ x < mn y (endN line))) : mdlabel_part.f line x y = some (⟨#[]⟩, false) := by
  rw [part_val line hl, if_neg h]
theorem bound_in {t : ByteArray} {a : Nat} (h : Cut line x y t a) : Ev (fun k => indentureref17_bound.f k line x y) (((a + t.size : Nat) : Int), true) := by
  have := bound_val line hl x y
  rw [h.end_] at this
  have e : decide (0 ≤ x ∧ x < ((a + t.size : Nat) : Int)) = true := decide_eq_true (by rw [← h.end_]; exact h.ins)
  rw [e] at this
  exact this
theorem bound_out (h : ¬ (0 ≤ x ∧ x < mn y (endN line))) : Ev (fun k => indentureref17_bound.f k line x y) (mn y (endN line), false) := by
  have := bound_val line hl x y
  rw [decide_eq_false h] at this
  exact this

/-! ### Read -/
theorem read_p_out (h : ¬ (0 ≤ x ∧ x < mn y (endN line))) : Ev (fun k => mdlabel_Read.f k line x y) (0, false) := by
  refine Ev.congr (f := fun k => mdlabel_Read.j0 k x ⟨#[]⟩ true) (fun k => ?_) (Ev.step (f := fun _ => some (0, false)) (fun k => by simp only [mdlabel_Read.j0, if_true]) (Ev.now _))
  unfold mdlabel_Read.f
  rw [part_out line hl x y h]
  simp
theorem read_r_out (h : ¬ (0 ≤ x ∧ x < mn y (endN line))) : Ev (fun k => indentureref17_Read.f k line x y) (0, false) := by
  refine Ev.congr (f := fun k => (indentureref17_bound.f k line x y).bind fun b => (if b.2 = true then (if 0 ≤ x then (if x < (line.size : Int) then (indentureref17_Read.j0 k line x b.1 ((bt line x) != 91)) else (none)) else (none)) else (indentureref17_Read.j0 k line x b.1 true))) (fun k => rfl) (Ev.bind (bound_out line hl x y h) ?_)
  simp only [Bool.false_eq_true, if_false]
  exact Ev.step (f := fun _ => some (0, false)) (fun k => by simp only [indentureref17_Read.j0, if_true]) (Ev.now _)
theorem read_p_in {t : ByteArray} {a : Nat} (h : Cut line x y t a) : Ev (fun k => mdlabel_Read.f k line x y) (rdS t a) := by
  obtain ⟨rfl, hin, heq, hp, hpos, hend⟩ := h
  have hsz := hp.sz
  refine Ev.congr (f := fun k => mdlabel_Read.j0 k a t (bt t 0 != 91)) (fun k => ?_) ?_
  · unfold mdlabel_Read.f
    rw [part_in line hl a y ⟨rfl, hin, heq, hp, hpos, hend⟩]
    simp only [Option.bind_some, if_true]
    rw [if_pos (by omega)]
  unfold rdS
  by_cases h91 : bt t 0 = 91
  · rw [if_pos h91, show (bt t 0 != 91) = false by simp [h91]]
    refine Ev.step (f := fun k => (mdlabel_within.f k t 93 ⟨#[91]⟩).bind fun w => (if w.2 = true then (if (wrap64 (w.1 - 2)) > 200 then (some (0, false)) else (if 1 ≤ (wrap64 (w.1 - 1)) then (if (wrap64 (w.1 - 1)) ≤ (t.size : Int) then ((mdlabel_Fold.f (t.extract 1 ((wrap64 (w.1 - 1)) : Int).toNat)).bind fun q => (if q.toList = ([] : List UInt8) then (some (0, false)) else (some (wrap64 (a + w.1), true)))) else (none)) else (none))) else (some (0, false)))) (fun k => by simp only [mdlabel_Read.j0, Bool.false_eq_true, if_false]) ?_
    have hv := within_val t ⟨#[91]⟩ 93 (fun c => c == 91) (bars_one 91) (by omega) (by decide) (by omega)
    cases hw : wth t 93 (fun x => x == 91) with
    | none =>
      rw [wans_none hw] at hv
      exact Ev.bind hv (ev_neg (by simp) (Ev.now _))
    | some m =>
      rw [wans_some hw] at hv
      obtain ⟨g1, g2, _⟩ := wth_ge hw
      refine Ev.bind hv (ev_pos rfl ?_)
      dsimp only
      rw [w64 (x := (m : Int) - 2) (by omega) (by omega), w64 (x := (m : Int) - 1) (by omega) (by omega)]
      by_cases h2 : m > 202
      · rw [if_pos h2]
        exact ev_pos (by omega) (Ev.now _)
      · rw [if_neg h2]
        refine ev_neg (by omega) (ev_pos (by omega) (ev_pos (by omega) ?_))
        rw [show ((m : Int) - 1).toNat = m - 1 by omega, fold_val _ (by rw [size_ext t 1 (m - 1) (by omega)]; omega)]
        simp only [Option.bind_some]
        rw [w64 (by omega) (by omega), show (a : Int) + (m : Int) = ((a + m : Nat) : Int) by omega]
        split
        · exact Ev.now _
        · exact Ev.now _
  · rw [if_neg h91, show (bt t 0 != 91) = true by simp [h91]]
    exact Ev.step (f := fun _ => some (0, false)) (fun k => by simp only [mdlabel_Read.j0, if_true]) (Ev.now _)
theorem read_r_in {t : ByteArray} {a : Nat} (h : Cut line x y t a) : Ev (fun k => indentureref17_Read.f k line x y) (rdS t a) := by
  have hb := bound_in line hl x y h
  obtain ⟨rfl, hin, heq, hp, hpos, hend⟩ := h
  have hsz := hp.sz
  have h0 := hp.by_ 0 hpos
  rw [Nat.add_zero] at h0
  refine Ev.congr (f := fun k => (indentureref17_bound.f k line a y).bind fun b => (if b.2 = true then (if 0 ≤ (a : Int) then (if (a : Int) < (line.size : Int) then (indentureref17_Read.j0 k line a b.1 ((bt line (a : Int)) != 91)) else (none)) else (none)) else (indentureref17_Read.j0 k line a b.1 true))) (fun k => rfl) (Ev.bind hb ?_)
  refine ev_pos rfl (ev_pos (by omega) (ev_pos (by omega) ?_))
  dsimp only
  rw [h0, show bt t ((0 : Nat) : Int) = bt t 0 from rfl]
  unfold rdS
  by_cases h91 : bt t 0 = 91
  · rw [if_pos h91, show (bt t 0 != 91) = false by simp [h91]]
    refine Ev.step (f := fun k => (indentureref17_find.f k line a ((a + t.size : Nat) : Int) 93).bind fun c => ((indentureref17_find.f k line a ((a + t.size : Nat) : Int) 91).bind fun o => (if c < 0 then (some (0, false)) else (if o ≥ 0 then (if o < c then (some (0, false)) else (if (wrap64 ((wrap64 (c - a)) - 1)) > 200 then (some (0, false)) else (if 0 ≤ (wrap64 ((a : Int) + 1)) then (if (wrap64 ((a : Int) + 1)) ≤ c then (if c ≤ (line.size : Int) then ((indentureref17_Fold.f k (line.extract ((wrap64 ((a : Int) + 1)) : Int).toNat (c : Int).toNat)).bind fun q => (if q.toList = ([] : List UInt8) then (some (0, false)) else (some (wrap64 (c + 1), true)))) else (none)) else (none)) else (none)))) else (if (wrap64 ((wrap64 (c - a)) - 1)) > 200 then (some (0, false)) else (if 0 ≤ (wrap64 ((a : Int) + 1)) then (if (wrap64 ((a : Int) + 1)) ≤ c then (if c ≤ (line.size : Int) then ((indentureref17_Fold.f k (line.extract ((wrap64 ((a : Int) + 1)) : Int).toNat (c : Int).toNat)).bind fun q => (if q.toList = ([] : List UInt8) then (some (0, false)) else (some (wrap64 (c + 1), true)))) else (none)) else (none)) else (none))))))) (fun k => by simp only [indentureref17_Read.j0, Bool.false_eq_true, if_false]) ?_
    have hvc := find_val line t a hp hl hpos 93
    have hvo := find_val line t a hp hl hpos 91
    rw [wth_eq t 93 91 (by omega)]
    cases hC : fst (qc t 93) (t.size - 1) 1 with
    | none =>
      rw [fans_none hC] at hvc
      exact Ev.bind hvc (Ev.bind hvo (ev_pos (by omega) (Ev.now _)))
    | some j =>
      rw [fans_some hC] at hvc
      obtain ⟨c1, c2, _, _⟩ := fst_some hC
      have rest : Ev (fun k => if (wrap64 ((wrap64 (((a + j : Nat) : Int) - a)) - 1)) > 200 then (some (0, false)) else (if 0 ≤ (wrap64 ((a : Int) + 1)) then (if (wrap64 ((a : Int) + 1)) ≤ ((a + j : Nat) : Int) then (if ((a + j : Nat) : Int) ≤ (line.size : Int) then ((indentureref17_Fold.f k (line.extract ((wrap64 ((a : Int) + 1)) : Int).toNat (((a + j : Nat) : Int) : Int).toNat)).bind fun q => (if q.toList = ([] : List UInt8) then (some (0, false)) else (some (wrap64 (((a + j : Nat) : Int) + 1), true)))) else (none)) else (none)) else (none)))
          (if j + 1 > 202 then (0, false) else if (foldS (t.extract 1 (j + 1 - 1))).toList = ([] : List UInt8) then (0, false) else (((a + (j + 1) : Nat) : Int), true)) := by
        rw [w64 (x := ((a + j : Nat) : Int) - a) (by omega) (by omega), w64 (x := ((a + j : Nat) : Int) - a - 1) (by omega) (by omega), w64 (x := (a : Int) + 1) (by omega) (by omega), w64 (x := ((a + j : Nat) : Int) + 1) (by omega) (by omega)]
        by_cases h2 : j + 1 > 202
        · rw [if_pos h2]
          exact ev_pos (by omega) (Ev.now _)
        · rw [if_neg h2]
          have e : line.extract ((a : Int) + 1).toNat ((a + j : Nat) : Int).toNat = t.extract 1 (j + 1 - 1) := by
            have e2 : line.extract a (a + t.size) = t := by have h' := heq; rw [hend] at h'; exact h'
            conv => rhs; rw [← e2]
            rw [ext_ext line a (a + t.size) 1 (j + 1 - 1) (by omega) (by omega)]
            congr 1
          refine Ev.congr (f := fun k => (indentureref17_Fold.f k (t.extract 1 (j + 1 - 1))).bind fun q => (if q.toList = ([] : List UInt8) then (some (0, false)) else (some (((a + j : Nat) : Int) + 1, true)))) (fun k => ?_) (Ev.bind (rfold_val _ (by rw [size_ext t 1 (j + 1 - 1) (by omega)]; omega)) ?_)
          · rw [if_neg (by omega), if_pos (by omega), if_pos (by omega), if_pos (by omega), e]
          · split
            · exact Ev.now _
            · rw [show ((a + j : Nat) : Int) + 1 = ((a + (j + 1) : Nat) : Int) by omega]; exact Ev.now _
      cases hO : fst (qc t 91) (t.size - 1) 1 with
      | none =>
        rw [fans_none hO] at hvo
        exact Ev.bind hvc (Ev.bind hvo (ev_neg (by omega) (ev_neg (by omega) rest)))
      | some o =>
        rw [fans_some hO] at hvo
        refine Ev.bind hvc (Ev.bind hvo (ev_neg (by omega) (ev_pos (by omega) ?_)))
        by_cases ho : o < j
        · simp only
          rw [if_pos ho]
          exact ev_pos (by omega) (Ev.now _)
        · simp only
          rw [if_neg ho]
          exact ev_neg (by omega) rest
  · rw [if_neg h91, show (bt t 0 != 91) = true by simp [h91]]
    exact Ev.step (f := fun _ => some (0, false)) (fun k => by simp only [indentureref17_Read.j0, if_true]) (Ev.now _)

/-! ### Dest -/
theorem dest_p_out (h : ¬ (0 ≤ x ∧ x < mn y (endN line))) : Ev (fun k => mdlabel_Dest.f k line x y) (0, false) := by
  refine Ev.congr (f := fun k => some (0, false)) (fun k => ?_) (Ev.now _)
  unfold mdlabel_Dest.f
  rw [part_out line hl x y h]
  simp
theorem dest_r_out (h : ¬ (0 ≤ x ∧ x < mn y (endN line))) : Ev (fun k => indentureref17_Dest.f k line x y) (0, false) :=
  Ev.bind (bound_out line hl x y h) (ev_neg (by simp) (Ev.now _))
omit hl in
theorem dest_p_loop (t : ByteArray) (a : Nat) (ha : a + t.size ≤ 4294967296) : ∀ (m i : Nat), i + m = t.size →
    Ev (fun k => mdlabel_Dest.l0 k a t i) (if far (fun i => decide (bt t (i : Int) > 32) && bt t (i : Int) != 127) m i = 0 then (0, false) else (((a + far (fun i => decide (bt t (i : Int) > 32) && bt t (i : Int) != 127) m i : Nat) : Int), true))
  | 0, i, hm => by
    refine Ev.step (f := fun _ => some (if i = 0 then (0, false) else (((a + i : Nat) : Int), true))) (fun k => ?_) (Ev.now _)
    simp only [mdlabel_Dest.l0]
    rw [if_neg (by omega), w64 (by omega) (by omega)]
    by_cases h : i = 0
    · rw [if_pos (by omega), if_pos h]
    · rw [if_neg (by omega), if_neg h, show (a : Int) + (i : Int) = ((a + i : Nat) : Int) by omega]
  | m + 1, i, hm => by
    have ih := dest_p_loop t a ha m (i + 1) (by omega)
    by_cases hq : (decide (bt t (i : Int) > 32) && bt t (i : Int) != 127) = true
    · have e : far (fun i => decide (bt t (i : Int) > 32) && bt t (i : Int) != 127) (m + 1) i = far (fun i => decide (bt t (i : Int) > 32) && bt t (i : Int) != 127) m (i + 1) := by
        conv => lhs; unfold far
        rw [if_pos hq]
      rw [e]
      refine Ev.step (f := fun k => mdlabel_Dest.l0 k a t ((i + 1 : Nat) : Int)) (fun k => ?_) ih
      simp only [mdlabel_Dest.l0]
      simp at hq
      rw [if_pos (by omega), if_pos (by omega), if_pos (by omega), if_neg (by omega), w64 (by omega) (by omega)]
      rfl
    · have e : far (fun i => decide (bt t (i : Int) > 32) && bt t (i : Int) != 127) (m + 1) i = i := by
        conv => lhs; unfold far
        rw [if_neg hq]
      rw [e]
      refine Ev.step (f := fun _ => some (if i = 0 then (0, false) else (((a + i : Nat) : Int), true))) (fun k => ?_) (Ev.now _)
      simp only [mdlabel_Dest.l0]
      have e2 : (if (i : Int) = 0 then (some (0, false)) else (some (wrap64 ((a : Int) + i), true))) = some (if i = 0 then ((0, false) : Int × Bool) else (((a + i : Nat) : Int), true)) := by
        rw [w64 (by omega) (by omega)]
        by_cases h : i = 0
        · rw [if_pos (by omega), if_pos h]
        · rw [if_neg (by omega), if_neg h, show (a : Int) + (i : Int) = ((a + i : Nat) : Int) by omega]
      rw [if_pos (by omega), if_pos (by omega), e2]
      by_cases h32 : bt t (i : Int) > 32
      · have h127 : bt t (i : Int) = 127 := by simp [h32] at hq; exact hq
        rw [if_pos h32, if_pos h127]
      · rw [if_neg h32]
omit hl in
theorem dest_r_loop (line t : ByteArray) (a : Nat) (hp : Part line t a) (hl : line.size ≤ 4294967296) : ∀ (m i : Nat), i + m = t.size →
    Ev (fun k => indentureref17_Dest.l0 k line a ((a + t.size : Nat) : Int) ((a + i : Nat) : Int)) (if far (fun i => decide (bt t (i : Int) > 32) && bt t (i : Int) != 127) m i = 0 then (0, false) else (((a + far (fun i => decide (bt t (i : Int) > 32) && bt t (i : Int) != 127) m i : Nat) : Int), true))
  | 0, i, hm => by
    have hsz := hp.sz
    refine Ev.step (f := fun _ => some (if i = 0 then (0, false) else (((a + i : Nat) : Int), true))) (fun k => ?_) (Ev.now _)
    simp only [indentureref17_Dest.l0]
    rw [if_neg (by omega)]
    by_cases h : i = 0
    · rw [if_pos (by omega), if_pos h]
    · rw [if_neg (by omega), if_neg h]
  | m + 1, i, hm => by
    have hsz := hp.sz
    have ih := dest_r_loop line t a hp hl m (i + 1) (by omega)
    have hb := hp.by_ i (by omega)
    by_cases hq : (decide (bt t (i : Int) > 32) && bt t (i : Int) != 127) = true
    · have e : far (fun i => decide (bt t (i : Int) > 32) && bt t (i : Int) != 127) (m + 1) i = far (fun i => decide (bt t (i : Int) > 32) && bt t (i : Int) != 127) m (i + 1) := by
        conv => lhs; unfold far
        rw [if_pos hq]
      rw [e]
      refine Ev.step (f := fun k => indentureref17_Dest.l0 k line a ((a + t.size : Nat) : Int) ((a + (i + 1) : Nat) : Int)) (fun k => ?_) ih
      simp only [indentureref17_Dest.l0]
      simp at hq
      rw [hb, if_pos (by omega), if_pos (by omega), if_pos (by omega), if_pos (by omega), if_neg (by omega), w64 (by omega) (by omega), show ((a + i : Nat) : Int) + 1 = ((a + (i + 1) : Nat) : Int) by omega]
    · have e : far (fun i => decide (bt t (i : Int) > 32) && bt t (i : Int) != 127) (m + 1) i = i := by
        conv => lhs; unfold far
        rw [if_neg hq]
      rw [e]
      refine Ev.step (f := fun _ => some (if i = 0 then (0, false) else (((a + i : Nat) : Int), true))) (fun k => ?_) (Ev.now _)
      simp only [indentureref17_Dest.l0]
      have e2 : (if ((a + i : Nat) : Int) = (a : Int) then (some (0, false)) else (some (((a + i : Nat) : Int), true))) = some (if i = 0 then ((0, false) : Int × Bool) else (((a + i : Nat) : Int), true)) := by
        by_cases h : i = 0
        · rw [if_pos (by omega), if_pos h]
        · rw [if_neg (by omega), if_neg h]
      rw [hb, if_pos (by omega), if_pos (by omega), if_pos (by omega), e2]
      by_cases h32 : bt t (i : Int) > 32
      · have h127 : bt t (i : Int) = 127 := by simp [h32] at hq; exact hq
        rw [if_pos h32, if_pos h127]
      · rw [if_neg h32]
theorem dest_p_in {t : ByteArray} {a : Nat} (h : Cut line x y t a) : Ev (fun k => mdlabel_Dest.f k line x y) (dsS t a) := by
  have hpi := part_in line hl x y h
  obtain ⟨rfl, hin, heq, hp, hpos, hend⟩ := h
  have hsz := hp.sz
  unfold mdlabel_Dest.f dsS
  rw [hpi]
  simp only [Option.bind_some, if_true]
  refine ev_pos (by omega) ?_
  by_cases h60 : bt t 0 = 60
  · rw [if_pos h60]
    refine ev_pos h60 ?_
    have hv := within_val t ⟨#[60]⟩ 62 (fun c => c == 60) (bars_one 60) (by omega) (by decide) (by omega)
    cases hw : wth t 62 (fun x => x == 60) with
    | none =>
      rw [wans_none hw] at hv
      exact Ev.bind hv (ev_neg (by simp) (Ev.now _))
    | some m =>
      rw [wans_some hw] at hv
      obtain ⟨g1, g2, _⟩ := wth_ge hw
      refine Ev.bind hv (ev_pos rfl ?_)
      dsimp only
      rw [w64 (by omega) (by omega), show (a : Int) + (m : Int) = ((a + m : Nat) : Int) by omega]
      exact Ev.now _
  · rw [if_neg h60]
    exact ev_neg h60 (dest_p_loop t a (by omega) t.size 0 (by omega))
theorem dest_r_in {t : ByteArray} {a : Nat} (h : Cut line x y t a) : Ev (fun k => indentureref17_Dest.f k line x y) (dsS t a) := by
  have hb := bound_in line hl x y h
  obtain ⟨rfl, hin, heq, hp, hpos, hend⟩ := h
  have hsz := hp.sz
  have h0 := hp.by_ 0 hpos
  rw [Nat.add_zero] at h0
  refine Ev.bind hb (ev_pos rfl (ev_pos (by omega) (ev_pos (by omega) ?_)))
  dsimp only
  rw [h0, show bt t ((0 : Nat) : Int) = bt t 0 from rfl]
  unfold dsS
  by_cases h60 : bt t 0 = 60
  · rw [if_pos h60]
    refine ev_pos h60 ?_
    have hvc := find_val line t a hp hl hpos 62
    have hvo := find_val line t a hp hl hpos 60
    rw [wth_eq t 62 60 (by omega)]
    cases hC : fst (qc t 62) (t.size - 1) 1 with
    | none =>
      rw [fans_none hC] at hvc
      exact Ev.bind hvc (Ev.bind hvo (ev_pos (by omega) (Ev.now _)))
    | some j =>
      rw [fans_some hC] at hvc
      obtain ⟨c1, c2, _, _⟩ := fst_some hC
      have e : wrap64 (((a + j : Nat) : Int) + 1) = ((a + (j + 1) : Nat) : Int) := by rw [w64 (by omega) (by omega)]; omega
      cases hO : fst (qc t 60) (t.size - 1) 1 with
      | none =>
        rw [fans_none hO] at hvo
        refine Ev.bind hvc (Ev.bind hvo (ev_neg (by omega) (ev_neg (by omega) ?_)))
        rw [e]; exact Ev.now _
      | some o =>
        rw [fans_some hO] at hvo
        refine Ev.bind hvc (Ev.bind hvo (ev_neg (by omega) (ev_pos (by omega) ?_)))
        by_cases ho : o < j
        · simp only
          rw [if_pos ho]
          exact ev_pos (by omega) (Ev.now _)
        · simp only
          rw [if_neg ho]
          refine ev_neg (by omega) ?_
          rw [e]; exact Ev.now _
  · rw [if_neg h60]
    exact ev_neg h60 (dest_r_loop line t a hp hl t.size 0 (by omega))

/-! ### Title -/
theorem title_p_out (h : ¬ (0 ≤ x ∧ x < mn y (endN line))) : Ev (fun k => mdlabel_Title.f k line x y) (0, false) := by
  refine Ev.congr (f := fun k => some (0, false)) (fun k => ?_) (Ev.now _)
  unfold mdlabel_Title.f
  rw [part_out line hl x y h]
  simp
theorem title_r_out (h : ¬ (0 ≤ x ∧ x < mn y (endN line))) : Ev (fun k => indentureref17_Title.f k line x y) (0, false) :=
  Ev.bind (bound_out line hl x y h) (ev_neg (by simp) (Ev.now _))
theorem title_p_in {t : ByteArray} {a : Nat} (h : Cut line x y t a) : Ev (fun k => mdlabel_Title.f k line x y) (tiS t a) := by
  have hpi := part_in line hl x y h
  obtain ⟨rfl, hin, heq, hp, hpos, hend⟩ := h
  have hsz := hp.sz
  refine Ev.congr (f := fun k => mdlabel_Title.j0 k a t (bt t 0) (decide (bt t 0 = 34 ∨ bt t 0 = 39))) (fun k => ?_) ?_
  · unfold mdlabel_Title.f
    rw [hpi]
    simp only [Option.bind_some, if_true]
    rw [if_pos (by omega)]
    by_cases h34 : bt t 0 = 34
    · rw [if_pos h34, decide_eq_true (.inl h34)]; simp [h34]
    · rw [if_neg h34]
      by_cases h39 : bt t 0 = 39
      · rw [decide_eq_true (.inr h39)]; simp [h39]
      · rw [decide_eq_false (show ¬ (bt t 0 = 34 ∨ bt t 0 = 39) by omega), show (bt t 0 == 39) = false from decide_eq_false h39]
  unfold tiS
  by_cases hq : bt t 0 = 34 ∨ bt t 0 = 39
  · rw [decide_eq_true hq, if_pos hq]
    refine Ev.step (f := fun k => (mdlabel_within.f k t (bt t 0) ⟨#[]⟩).bind fun w => (if w.2 = true then (some (wrap64 (a + w.1), true)) else (some (0, false)))) (fun k => by simp only [mdlabel_Title.j0, if_true]; rw [if_pos (by omega)]) ?_
    have hv := within_val t ⟨#[]⟩ (bt t 0) (fun _ => false) bars_none (by omega) rfl (by omega)
    cases hw : wth t (bt t 0) (fun _ => false) with
    | none =>
      rw [wans_none hw] at hv
      exact Ev.bind hv (ev_neg (by simp) (Ev.now _))
    | some m =>
      rw [wans_some hw] at hv
      obtain ⟨g1, g2, _⟩ := wth_ge hw
      refine Ev.bind hv (ev_pos rfl ?_)
      dsimp only
      rw [w64 (by omega) (by omega), show (a : Int) + (m : Int) = ((a + m : Nat) : Int) by omega]
      exact Ev.now _
  · rw [decide_eq_false hq, if_neg hq]
    by_cases h40 : bt t 0 = 40
    · rw [if_pos h40]
      refine Ev.step (f := fun k => (mdlabel_within.f k t 41 ⟨#[40]⟩).bind fun w => (if w.2 = true then (some (wrap64 (a + w.1), true)) else (some (0, false)))) (fun k => by simp only [mdlabel_Title.j0, Bool.false_eq_true, if_false]; rw [if_pos h40]) ?_
      have hv := within_val t ⟨#[40]⟩ 41 (fun c => c == 40) (bars_one 40) (by omega) (by decide) (by omega)
      cases hw : wth t 41 (fun x => x == 40) with
      | none =>
        rw [wans_none hw] at hv
        exact Ev.bind hv (ev_neg (by simp) (Ev.now _))
      | some m =>
        rw [wans_some hw] at hv
        obtain ⟨g1, g2, _⟩ := wth_ge hw
        refine Ev.bind hv (ev_pos rfl ?_)
        dsimp only
        rw [w64 (by omega) (by omega), show (a : Int) + (m : Int) = ((a + m : Nat) : Int) by omega]
        exact Ev.now _
    · rw [if_neg h40]
      exact Ev.step (f := fun _ => some (0, false)) (fun k => by simp only [mdlabel_Title.j0, Bool.false_eq_true, if_false]; rw [if_neg h40]) (Ev.now _)
theorem title_r_in {t : ByteArray} {a : Nat} (h : Cut line x y t a) : Ev (fun k => indentureref17_Title.f k line x y) (tiS t a) := by
  have hb := bound_in line hl x y h
  obtain ⟨rfl, hin, heq, hp, hpos, hend⟩ := h
  have hsz := hp.sz
  have h0 := hp.by_ 0 hpos
  rw [Nat.add_zero] at h0
  refine Ev.congr (f := fun k => (indentureref17_bound.f k line a y).bind fun b => (if b.2 = true then indentureref17_Title.j0 k line a b.1 (-1) (bt t 0) (decide (bt t 0 = 34 ∨ bt t 0 = 39)) else some (0, false))) (fun k => ?_) (Ev.bind hb (ev_pos rfl ?_))
  · unfold indentureref17_Title.f
    congr 1
    funext b
    rw [if_pos (show 0 ≤ (a : Int) by omega), if_pos (show (a : Int) < (line.size : Int) by omega), h0, show bt t ((0 : Nat) : Int) = bt t 0 from rfl]
    congr 1
    by_cases h34 : bt t 0 = 34
    · rw [if_pos h34, decide_eq_true (.inl h34)]; simp [h34]
    · rw [if_neg h34]
      by_cases h39 : bt t 0 = 39
      · rw [decide_eq_true (.inr h39)]; simp [h39]
      · rw [decide_eq_false (show ¬ (bt t 0 = 34 ∨ bt t 0 = 39) by omega), show (bt t 0 == 39) = false from decide_eq_false h39]
  dsimp only
  unfold tiS
  by_cases hq : bt t 0 = 34 ∨ bt t 0 = 39
  · rw [decide_eq_true hq, if_pos hq]
    refine Ev.step (f := fun k => (indentureref17_find.f k line a ((a + t.size : Nat) : Int) (bt t 0)).bind fun c => (if c < 0 then (some (0, false)) else (some (wrap64 (c + 1), true)))) (fun k => by simp only [indentureref17_Title.j0, if_true]; rw [if_pos (by omega), if_pos (by omega), h0, show bt t ((0 : Nat) : Int) = bt t 0 from rfl]) ?_
    have hvc := find_val line t a hp hl hpos (bt t 0)
    rw [wth_none]
    cases hC : fst (qc t (bt t 0)) (t.size - 1) 1 with
    | none =>
      rw [fans_none hC] at hvc
      exact Ev.bind hvc (ev_pos (by omega) (Ev.now _))
    | some j =>
      rw [fans_some hC] at hvc
      obtain ⟨c1, c2, _, _⟩ := fst_some hC
      refine Ev.bind hvc (ev_neg (by omega) ?_)
      rw [w64 (by omega) (by omega), show ((a + j : Nat) : Int) + 1 = ((a + (j + 1) : Nat) : Int) by omega]
      exact Ev.now _
  · rw [decide_eq_false hq, if_neg hq]
    by_cases h40 : bt t 0 = 40
    · rw [if_pos h40]
      refine Ev.step (f := fun k => (indentureref17_find.f k line a ((a + t.size : Nat) : Int) 41).bind fun c => ((indentureref17_find.f k line a ((a + t.size : Nat) : Int) 40).bind fun o => (if o ≥ 0 then (indentureref17_Title.j1 k c (decide (o < c))) else (indentureref17_Title.j1 k c false)))) (fun k => by simp only [indentureref17_Title.j0, Bool.false_eq_true, if_false]; rw [if_pos h40]) ?_
      have hvc := find_val line t a hp hl hpos 41
      have hvo := find_val line t a hp hl hpos 40
      rw [wth_eq t 41 40 (by omega)]
      have jt : ∀ c : Int, Ev (fun k => indentureref17_Title.j1 k c true) (0, false) := fun c =>
        Ev.step (f := fun _ => some (0, false)) (fun k => by simp [indentureref17_Title.j1]) (Ev.now _)
      have jf : ∀ j : Nat, j < t.size → Ev (fun k => indentureref17_Title.j1 k ((a + j : Nat) : Int) false) (((a + (j + 1) : Nat) : Int), true) := fun j hj =>
        Ev.step (f := fun _ => some (((a + (j + 1) : Nat) : Int), true)) (fun k => by
          simp only [indentureref17_Title.j1, Bool.false_eq_true, if_false]
          rw [if_neg (by omega), w64 (by omega) (by omega), show ((a + j : Nat) : Int) + 1 = ((a + (j + 1) : Nat) : Int) by omega]) (Ev.now _)
      cases hC : fst (qc t 41) (t.size - 1) 1 with
      | none =>
        rw [fans_none hC] at hvc
        have jn : Ev (fun k => indentureref17_Title.j1 k (-1) false) (0, false) :=
          Ev.step (f := fun _ => some (0, false)) (fun k => by simp [indentureref17_Title.j1]) (Ev.now _)
        cases hO : fst (qc t 40) (t.size - 1) 1 with
        | none =>
          rw [fans_none hO] at hvo
          exact Ev.bind hvc (Ev.bind hvo (ev_neg (by omega) jn))
        | some o =>
          rw [fans_some hO] at hvo
          refine Ev.bind hvc (Ev.bind hvo (ev_pos (by omega) ?_))
          rw [decide_eq_false (by omega)]
          exact jn
      | some j =>
        rw [fans_some hC] at hvc
        obtain ⟨c1, c2, _, _⟩ := fst_some hC
        cases hO : fst (qc t 40) (t.size - 1) 1 with
        | none =>
          rw [fans_none hO] at hvo
          exact Ev.bind hvc (Ev.bind hvo (ev_neg (by omega) (jf j (by omega))))
        | some o =>
          rw [fans_some hO] at hvo
          refine Ev.bind hvc (Ev.bind hvo (ev_pos (by omega) ?_))
          by_cases ho : o < j
          · rw [decide_eq_true (by omega)]
            simp only
            rw [if_pos ho]
            exact jt _
          · rw [decide_eq_false (by omega)]
            simp only
            rw [if_neg ho]
            exact jf j (by omega)
    · rw [if_neg h40]
      exact Ev.step (f := fun _ => some (0, false)) (fun k => by simp only [indentureref17_Title.j0, Bool.false_eq_true, if_false]; rw [if_neg h40]; simp) (Ev.now _)

/-! ### Skip -/
theorem skip_p_out (h : ¬ (0 ≤ x ∧ x < mn y (endN line))) : Ev (fun k => mdlabel_Skip.f k line x y) x := by
  refine Ev.congr (f := fun k => some x) (fun k => ?_) (Ev.now _)
  unfold mdlabel_Skip.f
  rw [part_out line hl x y h]
  simp
theorem skip_r_out (h : ¬ (0 ≤ x ∧ x < mn y (endN line))) : Ev (fun k => indentureref17_Skip.f k line x y) x :=
  Ev.bind (bound_out line hl x y h) (ev_neg (by simp) (Ev.now _))
omit hl in
theorem skip_p_loop (t : ByteArray) (a : Nat) (ha : a + t.size ≤ 4294967296) : ∀ (m i : Nat), i + m = t.size →
    Ev (fun k => mdlabel_Skip.l0 k a t t.size i) ((a + far (fun i => blankI (bt t (i : Int))) m i : Nat) : Int)
  | 0, i, hm => by
    refine Ev.step (f := fun _ => some ((a + i : Nat) : Int)) (fun k => ?_) (Ev.now _)
    simp only [mdlabel_Skip.l0]
    rw [if_neg (by omega), w64 (by omega) (by omega), show (a : Int) + (t.size : Int) = ((a + i : Nat) : Int) by omega]
  | m + 1, i, hm => by
    have ih := skip_p_loop t a ha m (i + 1) (by omega)
    by_cases hq : blankI (bt t (i : Int)) = true
    · have e : far (fun i => blankI (bt t (i : Int))) (m + 1) i = far (fun i => blankI (bt t (i : Int))) m (i + 1) := by
        conv => lhs; unfold far
        rw [if_pos hq]
      rw [e]
      refine Ev.step (f := fun k => mdlabel_Skip.l0 k a t t.size ((i + 1 : Nat) : Int)) (fun k => ?_) ih
      simp only [mdlabel_Skip.l0]
      rw [if_pos (by omega), if_pos (by omega), if_pos (by omega), blank_p, hq]
      simp only [Option.bind_some, if_true]
      rw [w64 (by omega) (by omega)]
      rfl
    · have e : far (fun i => blankI (bt t (i : Int))) (m + 1) i = i := by
        conv => lhs; unfold far
        rw [if_neg hq]
      rw [e]
      refine Ev.step (f := fun _ => some ((a + i : Nat) : Int)) (fun k => ?_) (Ev.now _)
      simp only [mdlabel_Skip.l0]
      rw [if_pos (by omega), if_pos (by omega), if_pos (by omega), blank_p]
      simp only [Option.bind_some]
      rw [if_neg hq, w64 (by omega) (by omega), show (a : Int) + (i : Int) = ((a + i : Nat) : Int) by omega]
omit hl in
theorem skip_r_loop (line t : ByteArray) (a : Nat) (hp : Part line t a) (hl : line.size ≤ 4294967296) : ∀ (m i : Nat), i + m = t.size →
    Ev (fun k => indentureref17_Skip.l0 k line ((a + i : Nat) : Int) ((a + t.size : Nat) : Int)) ((a + far (fun i => blankI (bt t (i : Int))) m i : Nat) : Int)
  | 0, i, hm => by
    have hsz := hp.sz
    refine Ev.step (f := fun _ => some ((a + i : Nat) : Int)) (fun k => ?_) (Ev.now _)
    simp only [indentureref17_Skip.l0]
    rw [if_neg (by omega)]
  | m + 1, i, hm => by
    have hsz := hp.sz
    have ih := skip_r_loop line t a hp hl m (i + 1) (by omega)
    have hb := hp.by_ i (by omega)
    by_cases hq : blankI (bt t (i : Int)) = true
    · have e : far (fun i => blankI (bt t (i : Int))) (m + 1) i = far (fun i => blankI (bt t (i : Int))) m (i + 1) := by
        conv => lhs; unfold far
        rw [if_pos hq]
      rw [e]
      refine Ev.step (f := fun k => indentureref17_Skip.l0 k line ((a + (i + 1) : Nat) : Int) ((a + t.size : Nat) : Int)) (fun k => ?_) ih
      simp only [indentureref17_Skip.l0]
      rw [if_pos (by omega), if_pos (by omega), if_pos (by omega), hb, blank_val, hq]
      simp only [Option.bind_some, if_true]
      rw [w64 (by omega) (by omega), show ((a + i : Nat) : Int) + 1 = ((a + (i + 1) : Nat) : Int) by omega]
    · have e : far (fun i => blankI (bt t (i : Int))) (m + 1) i = i := by
        conv => lhs; unfold far
        rw [if_neg hq]
      rw [e]
      refine Ev.step (f := fun _ => some ((a + i : Nat) : Int)) (fun k => ?_) (Ev.now _)
      simp only [indentureref17_Skip.l0]
      rw [if_pos (by omega), if_pos (by omega), if_pos (by omega), hb, blank_val]
      simp only [Option.bind_some]
      rw [if_neg hq]
theorem skip_p_in {t : ByteArray} {a : Nat} (h : Cut line x y t a) : Ev (fun k => mdlabel_Skip.f k line x y) (skS t a) := by
  have hpi := part_in line hl x y h
  obtain ⟨rfl, hin, heq, hp, hpos, hend⟩ := h
  have hsz := hp.sz
  unfold mdlabel_Skip.f
  rw [hpi]
  exact skip_p_loop t a (by omega) t.size 0 (by omega)
theorem skip_r_in {t : ByteArray} {a : Nat} (h : Cut line x y t a) : Ev (fun k => indentureref17_Skip.f k line x y) (skS t a) := by
  have hb := bound_in line hl x y h
  obtain ⟨rfl, hin, heq, hp, hpos, hend⟩ := h
  exact Ev.bind hb (ev_pos rfl (skip_r_loop line t a hp hl t.size 0 (by omega)))
end
end Go.Proofs.Ytlmhdiienpebfaa.Pure
