/- Plain lemmas: the spans of a part, as the program tells them and as the document does. Conditions: lines of at most 4,000,000,000 bytes. -/
import Derived.Test.YtodgioleaegpfaaDoorLibG
import Derived.Test.YtodgioleaegpfaaDoorLibRn
import Derived.Test.YtodgioleaegpfaaDoorHandF
import Derived.Test.YtodgioleaegpfaaDoorQ18
namespace Go.Proofs.YtodgioleaegpfaaDoor.Pure
open Go.RowKit Go.Proofs.YtodgioleaegpfaaDoor.P Go.Proofs.YtodgioleaegpfaaDoorW.PrintWords Go.Proofs.YtodgioleaegpfaaDoorW.PrintLast Go.Proofs.YtodgioleaegpfaaDoorW.PrintMore
set_option linter.unusedVariables false
set_option linter.unusedSimpArgs false
/-- Read at a place within: how far it comes. -/
theorem rdS_step (line : ByteArray) (x en : Int) (h : 0 ≤ x ∧ x < en ∧ x < (endN line : Int)) : x < (rdS line x en).2 ∧ (rdS line x en).2 ≤ en ∧ (rdS line x en).2 ≤ (endN line : Int) := by
  have hl := endN_le line
  obtain ⟨A, rfl⟩ : ∃ A : Nat, x = (A : Int) := ⟨x.toNat, by omega⟩
  obtain ⟨E, hE⟩ : ∃ E : Nat, min en ((endN line : Nat) : Int) = (E : Int) := ⟨(min en ((endN line : Nat) : Int)).toNat, by omega⟩
  rw [rdS_in line A E en hE (by omega)]
  have hz := size_ext line A E (by omega)
  obtain ⟨h1, h2⟩ := rdN_le (line.extract A E) (decide (E = endN line)) (lfB line) (by omega)
  unfold at_
  dsimp only
  omega
theorem rdS_min (line : ByteArray) (x en : Int) : rdS line x (min en ((endN line : Nat) : Int)) = rdS line x en := by
  unfold rdS
  have e1 : min (min en ((endN line : Nat) : Int)) ((endN line : Nat) : Int) = min en ((endN line : Nat) : Int) := by omega
  have e2 : (((endN line : Nat) : Int) ≤ min en ((endN line : Nat) : Int)) = (((endN line : Nat) : Int) ≤ en) := propext (by omega)
  have e3 : (x < 0 ∨ x ≥ min en ((endN line : Nat) : Int) ∨ x ≥ (endN line : Int)) = (x < 0 ∨ x ≥ en ∨ x ≥ (endN line : Int)) := propext (by omega)
  simp only [e1, e2, e3]
/-- The spans from x on; m: more than the bytes that are left. -/
def spL (line : ByteArray) (en : Int) : Nat → Int → List S31
  | 0, _ => []
  | m + 1, x => if 0 ≤ x ∧ x < en ∧ x < (endN line : Int) then (if (rdS line x en).1 = 0 then spL line en m (rdS line x en).2 else ⟨3, (rdS line x en).1, x, (rdS line x en).2⟩ :: spL line en m (rdS line x en).2) else []
theorem spL_out (line : ByteArray) (en : Int) (m : Nat) (x : Int) (h : ¬ (0 ≤ x ∧ x < en ∧ x < (endN line : Int))) : spL line en m x = [] := by
  cases m with
  | zero => rfl
  | succ m => unfold spL; rw [if_neg h]
theorem spL_no (line : ByteArray) (en : Int) (m : Nat) (x : Int) (h : 0 ≤ x ∧ x < en ∧ x < (endN line : Int)) (h0 : (rdS line x en).1 = 0) : spL line en (m + 1) x = spL line en m (rdS line x en).2 := by
  rw [spL, if_pos h, if_pos h0]
theorem spL_yes (line : ByteArray) (en : Int) (m : Nat) (x : Int) (h : 0 ≤ x ∧ x < en ∧ x < (endN line : Int)) (h0 : (rdS line x en).1 ≠ 0) : spL line en (m + 1) x = ⟨3, (rdS line x en).1, x, (rdS line x en).2⟩ :: spL line en m (rdS line x en).2 := by
  rw [spL, if_pos h, if_neg h0]
def spS (line : ByteArray) (fr en : Int) : List S31 := spL line en (endN line) fr
theorem spL_len (line : ByteArray) (en : Int) : ∀ (m : Nat) (x : Int), (spL line en m x).length ≤ m
  | 0, _ => Nat.le_refl _
  | m + 1, x => by
    unfold spL
    have ih := spL_len line en m (rdS line x en).2
    split
    · split
      · omega
      · rw [List.length_cons]; omega
    · simp
theorem spans_g (line : ByteArray) (en : Int) (hs : line.size ≤ 4000000000) : ∀ (m : Nat) (x : Int), (endN line : Int) ≤ x + m ∨ x < 0 → Ev (fun k => mdcode_Spans.g k line (min en ((endN line : Nat) : Int)) x) (spL line en m x) := by
  intro m
  induction m with
  | zero =>
    intro x hm
    refine Ev.step (fun k => by rw [mdcode_Spans.g]) ?_
    exact ev_neg (by omega) (Ev.now _)
  | succ m ih =>
    intro x hm
    refine Ev.step (fun k => by rw [mdcode_Spans.g]) ?_
    by_cases h : 0 ≤ x ∧ x < en ∧ x < (endN line : Int)
    rotate_left
    · rw [spL_out line en _ x h]
      exact ev_neg (by omega) (Ev.now _)
    obtain ⟨r1, r2, r3⟩ := rdS_step line x en h
    replace ih := ih (rdS line x en).2 (by omega)
    refine ev_pos (by omega) ?_
    have hr := read_p line x (min en ((endN line : Nat) : Int)) hs
    rw [rdS_min] at hr
    refine Ev.bind hr ?_
    by_cases h0 : (rdS line x en).1 = 0
    · rw [spL_no line en m x h h0]
      exact ev_pos h0 ih
    · rw [spL_yes line en m x h h0]
      exact ev_neg h0 (Ev.bind ih (Ev.now _))
theorem spans_p (line : ByteArray) (fr en : Int) (hs : line.size ≤ 4000000000) : Ev (fun k => mdcode_Spans.f k line fr en) (spS line fr en) := by
  have hl := endN_le line
  unfold mdcode_Spans.f
  rw [ahead_val line (by omega)]
  refine Ev.bind (Ev.now _) ?_
  dsimp only
  rw [hd_size]
  have hmin : (if ((endN line : Nat) : Int) < en then ((endN line : Nat) : Int) else en) = min en ((endN line : Nat) : Int) := by split <;> omega
  rw [hmin]
  refine Ev.bind (spans_g line en hs (endN line) fr (by omega)) ?_
  have := spL_len line en (endN line) fr
  exact ev_pos (show (spS line fr en).length < 5864062014805 by unfold spS; omega) (Ev.now _)
/-- Two lists that are one. -/
theorem same_l0 (xs : List S31) (hx : xs.length ≤ 4294967296) : ∀ (m i : Nat), xs.length ≤ i + m → Ev (fun k => indentureref11_SameEvents.l0 k xs xs (i : Int)) true
  | 0, i, hm => by
    refine Ev.step (fun k => by rw [indentureref11_SameEvents.l0]) ?_
    exact ev_neg (by omega) (Ev.now _)
  | m + 1, i, hm => by
    refine Ev.step (fun k => by rw [indentureref11_SameEvents.l0]) ?_
    by_cases h : i < xs.length
    · refine ev_pos (by omega) (ev_pos (by omega) (ev_pos (by omega) (ev_neg (by simp) ?_)))
      rw [w64 (by omega) (by omega), show (i : Int) + 1 = ((i + 1 : Nat) : Int) by omega]
      exact same_l0 xs hx m (i + 1) (by omega)
    · exact ev_neg (by omega) (Ev.now _)
theorem same_p (xs : List S31) (hx : xs.length ≤ 4294967296) : Ev (fun k => indentureref11_SameEvents.f k xs xs) true := by
  unfold indentureref11_SameEvents.f
  exact ev_pos rfl (same_l0 xs hx xs.length 0 (by omega))
end Go.Proofs.YtodgioleaegpfaaDoor.Pure
