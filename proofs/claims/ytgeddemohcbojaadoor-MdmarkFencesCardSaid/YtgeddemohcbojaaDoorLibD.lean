/- Plain lemmas: an underline and a fence, as the program and the document tell them, are one and the same; the laws on them. Conditions: texts of at most 2^32 bytes. -/
import Derived.Test.YtgeddemohcbojaaDoorLibC
import Derived.Test.YtgeddemohcbojaaDoorPx7
namespace Go.Proofs.YtgeddemohcbojaaDoor.Pure
open Go.RowKit Go.Proofs.YtgeddemohcbojaaDoor.P Go.Proofs.YtgeddemohcbojaaDoorW.PrintWords Go.Proofs.YtgeddemohcbojaaDoorW.PrintLast
set_option linter.unusedVariables false
set_option linter.unusedSimpArgs false

def isUnder (t : ByteArray) (x : Int) : Bool := bt t x == 61 || bt t x == 45
def underS (t : ByteArray) (x : Int) : Int × Int × Int × Int × Int × Int × Bool :=
  if 0 ≤ x ∧ x < (t.size : Int) ∧ (bt t x = 61 ∨ bt t x = 45) ∧ lastN t (behN t x.toNat) = behN t x.toNat then
    (bt t x, ((behN t x.toNat - x.toNat : Nat) : Int), 0, 0, 0, ((behN t x.toNat : Nat) : Int), true)
  else (0, 0, 0, 0, 0, 0, false)
theorem far_beh (t : ByteArray) (a : Nat) : P.far (isB (bt t (a : Int))) t a = behN t a := by
  rw [row_at t (isB (bt t (a : Int))) (fun i => bt t (i : Int) == bt t (a : Int)) a (fun i => rfl)]; rfl
/-- The last place from a on is that from a row's end on, if what stands behind the row is no blank's row begun within it. -/
theorem last_beh (t : ByteArray) (a : Nat) (ha : a < t.size) (hb : blankI (bt t (a : Int)) = false) : lastN t a = lastN t (behN t a) := by
  obtain ⟨p1, p2, p3, p4⟩ := behN_prop t a ha
  obtain ⟨l1, l2, l3, l4⟩ := lastN_prop t (behN t a) p2
  refine back_eq (by omega) (by omega) (fun k h1 h2 => l3 k h1 (by omega)) (fun h => ?_)
  by_cases e : behN t a < lastN t (behN t a)
  · exact l4 e
  · have e2 : lastN t (behN t a) = behN t a := by omega
    rw [e2, p3 _ (by omega) (by omega)]
    exact hb
theorem under_p (s : ByteArray) (x : Int) (hs : s.size ≤ 4294967296) : mdmark_Under.f s x = some (underS (hd s) x) := by
  have hle := endN_le s
  have hz := hd_size s
  unfold mdmark_Under.f underS
  rw [ahead_val s x (by omega), Option.bind_some]
  generalize hd s = t at hz ⊢
  dsimp only
  by_cases h : 0 ≤ x ∧ x < (t.size : Int)
  · obtain ⟨a, rfl⟩ := Int.eq_ofNat_of_zero_le h.1
    have ha : a < t.size := by omega
    rw [decide_eq_true h, if_pos rfl, if_pos ⟨h.1, h.2, by omega⟩]
    simp only [Int.toNat_natCast]
    by_cases hc : bt t (a : Int) = 61 ∨ bt t (a : Int) = 45
    · rw [if_pos hc, last_p t a (by omega) (by omega), Option.bind_some, far_beh]
      have hbl : blankI (bt t (a : Int)) = false := by rcases hc with e | e <;> rw [e] <;> rfl
      rw [last_beh t a ha hbl]
      by_cases he : lastN t (behN t a) = behN t a
      · rw [if_pos (by omega), if_pos ⟨h.1, h.2, hc, he⟩]
      · rw [if_neg (by omega), if_neg (fun h' => he h'.2.2.2)]; rfl
    · rw [if_neg hc, if_neg (fun h' => hc h'.2.2.1)]; rfl
  · rw [decide_eq_false h, if_neg (by simp), if_neg (fun h' => h ⟨h'.1, h'.2.1⟩)]; rfl
theorem under_r (s : ByteArray) (x : Int) (hs : s.size ≤ 4294967296) : Ev (fun k => indentureref18_Under.f k s x) (underS (hd s) x) := by
  have hle := endN_le s
  have hz := hd_size s
  unfold indentureref18_Under.f underS
  refine Ev.bind (outside_r s hs x) ?_
  by_cases h : 0 ≤ x ∧ x < ((hd s).size : Int)
  · obtain ⟨a, rfl⟩ := Int.eq_ofNat_of_zero_le h.1
    have ha : a < (hd s).size := by omega
    simp only [Int.toNat_natCast]
    rw [decide_eq_true h]
    refine ev_neg (by simp) (ev_pos (by omega) (ev_pos (by omega) ?_))
    rw [← hd_bt s a (by omega)]
    have yes : bt (hd s) (a : Int) = 61 ∨ bt (hd s) (a : Int) = 45 → Ev (fun k => indentureref18_Under.j0 k s (a : Int) false) (if 0 ≤ (a : Int) ∧ (a : Int) < ((hd s).size : Int) ∧ (bt (hd s) (a : Int) = 61 ∨ bt (hd s) (a : Int) = 45) ∧ lastN (hd s) (behN (hd s) a) = behN (hd s) a then
        (bt (hd s) (a : Int), ((behN (hd s) a - a : Nat) : Int), 0, 0, 0, ((behN (hd s) a : Nat) : Int), true) else (0, 0, 0, 0, 0, 0, false)) := by
      intro hc
      obtain ⟨p1, p2, p3, p4⟩ := behN_prop (hd s) a ha
      obtain ⟨l1, l2, l3, l4⟩ := lastN_prop (hd s) (behN (hd s) a) p2
      refine Ev.step (fun k => by rw [indentureref18_Under.j0]) ?_
      refine ev_neg (by simp) (Ev.bind (behind_r s hs a ha) (Ev.bind (last_r s hs _ p2) ?_))
      by_cases he : lastN (hd s) (behN (hd s) a) = behN (hd s) a
      · rw [if_pos (show 0 ≤ (a : Int) ∧ (a : Int) < ((hd s).size : Int) ∧ (bt (hd s) (a : Int) = 61 ∨ bt (hd s) (a : Int) = 45) ∧ lastN (hd s) (behN (hd s) a) = behN (hd s) a from ⟨h.1, h.2, hc, he⟩)]
        refine ev_neg (by omega) (ev_pos (by omega) (ev_pos (by omega) ?_))
        rw [← hd_bt s a (by omega), w64 (by omega) (by omega), show ((behN (hd s) a : Nat) : Int) - (a : Int) = ((behN (hd s) a - a : Nat) : Int) by omega]
        exact Ev.now _
      · rw [if_neg (show ¬ (0 ≤ (a : Int) ∧ (a : Int) < ((hd s).size : Int) ∧ (bt (hd s) (a : Int) = 61 ∨ bt (hd s) (a : Int) = 45) ∧ lastN (hd s) (behN (hd s) a) = behN (hd s) a) from fun h' => he h'.2.2.2)]
        exact ev_pos (by omega) (Ev.now _)
    by_cases h61 : bt (hd s) (a : Int) = 61
    · exact ev_pos h61 (yes (.inl h61))
    · refine ev_neg h61 ?_
      by_cases h45 : bt (hd s) (a : Int) = 45
      · have e : (bt (hd s) (a : Int) != 45) = false := by rw [h45]; rfl
        rw [e]
        exact yes (.inr h45)
      · have e : (bt (hd s) (a : Int) != 45) = true := by simpa using h45
        rw [e, if_neg (fun h' => h'.2.2.1.elim h61 h45)]
        exact Ev.step (fun k => by rw [indentureref18_Under.j0]) (ev_pos rfl (Ev.now _))
  · rw [if_neg (fun h' => h ⟨h'.1, h'.2.1⟩), decide_eq_false h]
    exact ev_pos rfl (Ev.step (fun k => by rw [indentureref18_Under.j0]) (ev_pos rfl (Ev.now _)))
theorem MdmarkUnders : indenturelaw18_MdmarkUnders.Pure := by
  intro s x hs hx
  refine Ev.rounds ?_
  unfold indenturelaw18_MdmarkUnders.f
  by_cases hb : (s.size : Int) > 3000
  · exact ev_pos hb (Ev.now _)
  rw [under_p s x (by omega), under_p ⟨#[61, 61, 32]⟩ 0 (by decide), show underS (hd ⟨#[61, 61, 32]⟩) 0 = (61, 2, 0, 0, 0, 2, true) by kernel_rfl]
  refine ev_neg hb (Ev.bind (Ev.now _) (Ev.bind (under_r s x (by omega)) (Ev.bind (Ev.now _) ?_)))
  rw [same_val]
  exact Ev.bind (Ev.now _) (ev_pos rfl (ev_pos rfl (ev_pos rfl reads_end)))

/-! ### fences -/
/-- Where a grave accent stands behind a place. -/
def tick (t : ByteArray) (b : Nat) : Option Nat := fst (fun i => bt t (i : Int) == 96) (t.size - b) b
def fenceS (t : ByteArray) (x : Int) : Int × Int × Int × Int × Int × Int × Bool :=
  if 0 ≤ x ∧ x < (t.size : Int) ∧ (bt t x = 96 ∨ bt t x = 126) ∧ 3 ≤ behN t x.toNat - x.toNat ∧ (bt t x = 96 → tick t (behN t x.toNat) = none) then
    (bt t x, ((behN t x.toNat - x.toNat : Nat) : Int), ((behN t x.toNat : Nat) : Int), 0, 0, ((lastN t (behN t x.toNat) : Nat) : Int), true)
  else (0, 0, 0, 0, 0, 0, false)
theorem tick_p (t : ByteArray) (b : Nat) (hb : b ≤ t.size) : 0 ≤ Lib.indexByte (t.extract b t.size).data.toList 96 ↔ tick t b ≠ none := by
  have hz := size_ext t b t.size (Nat.le_refl _)
  rcases index_cases (t.extract b t.size) 96 with h | ⟨o, h⟩
  · rw [h]
    refine ⟨fun h' => by omega, fun h' => absurd (fst_no fun k h1 h2 => ?_) h'⟩
    have := index_none h (k - b) (by omega)
    rw [bt_ext t b t.size (k - b) (Nat.le_refl _) (by omega), show b + (k - b) = k by omega] at this
    simpa using this
  · rw [h]
    refine ⟨fun _ hn => ?_, fun _ => by omega⟩
    obtain ⟨h1, h2, h3⟩ := index_some h
    rw [bt_ext t b t.size o (Nat.le_refl _) (by omega)] at h2
    have := fst_none hn (b + o) (by omega) (by omega)
    simp at this
    exact this h2
theorem fence_p (s : ByteArray) (x : Int) (hs : s.size ≤ 4294967296) : mdmark_Fence.f s x = some (fenceS (hd s) x) := by
  have hle := endN_le s
  have hz := hd_size s
  unfold mdmark_Fence.f fenceS
  rw [ahead_val s x (by omega), Option.bind_some]
  generalize hd s = t at hz ⊢
  dsimp only
  by_cases h : 0 ≤ x ∧ x < (t.size : Int)
  · obtain ⟨a, rfl⟩ := Int.eq_ofNat_of_zero_le h.1
    have ha : a < t.size := by omega
    obtain ⟨p1, p2, p3, p4⟩ := behN_prop t a ha
    rw [decide_eq_true h, if_pos rfl, if_pos ⟨h.1, h.2, by omega⟩]
    simp only [Int.toNat_natCast]
    by_cases hc : bt t (a : Int) = 96 ∨ bt t (a : Int) = 126
    · rw [if_pos hc, far_beh]
      by_cases hn : behN t a - a < 3
      · rw [if_pos hn, if_neg (fun h' => by omega)]; rfl
      · rw [if_neg hn]
        by_cases ht : bt t (a : Int) = 96 ∧ 0 ≤ Lib.indexByte (t.extract (behN t a) t.size).data.toList 96
        · rw [if_pos ht, if_neg (fun h' => (tick_p t _ p2).1 ht.2 (h'.2.2.2.2 ht.1))]; rfl
        · rw [if_neg ht, last_p t _ p2 (by omega), Option.bind_some, if_pos ⟨h.1, h.2, hc, by omega, fun e => Classical.byContradiction fun h' => ht ⟨e, (tick_p t _ p2).2 h'⟩⟩]
    · rw [if_neg hc, if_neg (fun h' => hc h'.2.2.1)]; rfl
  · rw [decide_eq_false h, if_neg (by simp), if_neg (fun h' => h ⟨h'.1, h'.2.1⟩)]; rfl
section
variable (s : ByteArray) (hs : s.size ≤ 4294967296)
include hs
theorem fence_loop (a : Nat) (ha : a < (hd s).size) : ∀ (m j : Nat), j + m = (hd s).size →
    Ev (fun k => indentureref18_Fence.l0 k s (a : Int) ((behN (hd s) a : Nat) : Int) (j : Int))
      (if 3 ≤ behN (hd s) a - a ∧ (bt (hd s) (a : Int) = 96 → fst (fun i => bt (hd s) (i : Int) == 96) m j = none) then
        (bt (hd s) (a : Int), ((behN (hd s) a - a : Nat) : Int), ((behN (hd s) a : Nat) : Int), 0, 0, ((lastN (hd s) (behN (hd s) a) : Nat) : Int), true) else (0, 0, 0, 0, 0, 0, false))
  | 0, j, hj => by
    have hle := endN_le s
    have hz := hd_size s
    obtain ⟨p1, p2, p3, p4⟩ := behN_prop (hd s) a ha
    refine Ev.step (fun k => by rw [indentureref18_Fence.l0]) ?_
    refine Ev.bind (end_val s (by omega)) (ev_neg (by omega) ?_)
    rw [w64 (by omega) (by omega)]
    by_cases hn : 3 ≤ behN (hd s) a - a
    · rw [if_pos ⟨hn, fun _ => rfl⟩]
      refine ev_neg (by omega) (ev_pos (by omega) (ev_pos (by omega) (Ev.bind (last_r s hs _ p2) ?_)))
      rw [← hd_bt s a (by omega), show ((behN (hd s) a : Nat) : Int) - (a : Int) = ((behN (hd s) a - a : Nat) : Int) by omega]
      exact Ev.now _
    · rw [if_neg (fun h => hn h.1)]
      exact ev_pos (by omega) (Ev.now _)
  | m + 1, j, hj => by
    have hle := endN_le s
    have hz := hd_size s
    refine Ev.step (fun k => by rw [indentureref18_Fence.l0]) ?_
    refine Ev.bind (end_val s (by omega)) (ev_pos (by omega) (ev_pos (by omega) (ev_pos (by omega) ?_)))
    have ih := fence_loop a ha m (j + 1) (by omega)
    have ew : wrap64 ((j : Int) + 1) = ((j + 1 : Nat) : Int) := by rw [w64 (by omega) (by omega)]; omega
    rw [← hd_bt s a (by omega), ← hd_bt s j (by omega), ew]
    unfold fst
    by_cases h96 : bt (hd s) (a : Int) = 96
    · refine ev_pos h96 (ev_pos (by omega) (ev_pos (by omega) ?_))
      by_cases hj96 : bt (hd s) (j : Int) = 96
      · rw [if_pos (show (bt (hd s) (j : Int) == 96) = true by simpa using hj96), if_neg (fun h => by have := h.2 h96; cases this)]
        exact ev_pos hj96 (Ev.now _)
      · rw [if_neg (show ¬ (bt (hd s) (j : Int) == 96) = true by simpa using hj96)]
        exact ev_neg hj96 ih
    · refine ev_neg h96 ?_
      have e : ∀ q : Option Nat, (3 ≤ behN (hd s) a - a ∧ (bt (hd s) (a : Int) = 96 → q = none)) ↔ 3 ≤ behN (hd s) a - a := fun q => ⟨fun h => h.1, fun h => ⟨h, fun h' => absurd h' h96⟩⟩
      simp only [e] at ih ⊢
      exact ih
theorem fence_r (x : Int) : Ev (fun k => indentureref18_Fence.f k s x) (fenceS (hd s) x) := by
  have hle := endN_le s
  have hz := hd_size s
  unfold indentureref18_Fence.f fenceS
  refine Ev.bind (outside_r s hs x) ?_
  by_cases h : 0 ≤ x ∧ x < ((hd s).size : Int)
  · obtain ⟨a, rfl⟩ := Int.eq_ofNat_of_zero_le h.1
    have ha : a < (hd s).size := by omega
    simp only [Int.toNat_natCast]
    rw [decide_eq_true h]
    refine ev_neg (by simp) (ev_pos (by omega) (ev_pos (by omega) ?_))
    rw [← hd_bt s a (by omega)]
    obtain ⟨p1, p2, p3, p4⟩ := behN_prop (hd s) a ha
    have yes : bt (hd s) (a : Int) = 96 ∨ bt (hd s) (a : Int) = 126 → Ev (fun k => indentureref18_Fence.j0 k s (a : Int) false) (if 0 ≤ (a : Int) ∧ (a : Int) < ((hd s).size : Int) ∧ (bt (hd s) (a : Int) = 96 ∨ bt (hd s) (a : Int) = 126) ∧ 3 ≤ behN (hd s) a - a ∧ (bt (hd s) (a : Int) = 96 → tick (hd s) (behN (hd s) a) = none) then
        (bt (hd s) (a : Int), ((behN (hd s) a - a : Nat) : Int), ((behN (hd s) a : Nat) : Int), 0, 0, ((lastN (hd s) (behN (hd s) a) : Nat) : Int), true) else (0, 0, 0, 0, 0, 0, false)) := by
      intro hc
      refine Ev.step (fun k => by rw [indentureref18_Fence.j0]) ?_
      refine ev_neg (by simp) (Ev.bind (behind_r s hs a ha) ?_)
      have hl := fence_loop s hs a ha ((hd s).size - behN (hd s) a) (behN (hd s) a) (by omega)
      change Ev _ (if 3 ≤ behN (hd s) a - a ∧ (bt (hd s) (a : Int) = 96 → tick (hd s) (behN (hd s) a) = none) then (bt (hd s) (a : Int), ((behN (hd s) a - a : Nat) : Int), ((behN (hd s) a : Nat) : Int), 0, 0, ((lastN (hd s) (behN (hd s) a) : Nat) : Int), true) else (0, 0, 0, 0, 0, 0, false)) at hl
      by_cases hg : 3 ≤ behN (hd s) a - a ∧ (bt (hd s) (a : Int) = 96 → tick (hd s) (behN (hd s) a) = none)
      · rw [if_pos ⟨h.1, h.2, hc, hg⟩]
        rw [if_pos hg] at hl
        exact hl
      · rw [if_neg (fun h' => hg h'.2.2.2)]
        rw [if_neg hg] at hl
        exact hl
    by_cases h126 : bt (hd s) (a : Int) = 126
    · exact ev_pos h126 (yes (.inr h126))
    · refine ev_neg h126 ?_
      by_cases h96 : bt (hd s) (a : Int) = 96
      · have e : (bt (hd s) (a : Int) != 96) = false := by rw [h96]; rfl
        rw [e]
        exact yes (.inl h96)
      · have e : (bt (hd s) (a : Int) != 96) = true := by simpa using h96
        rw [e, if_neg (fun h' => h'.2.2.1.elim h96 h126)]
        exact Ev.step (fun k => by rw [indentureref18_Fence.j0]) (ev_pos rfl (Ev.now _))
  · rw [if_neg (fun h' => h ⟨h'.1, h'.2.1⟩), decide_eq_false h]
    exact ev_pos rfl (Ev.step (fun k => by rw [indentureref18_Fence.j0]) (ev_pos rfl (Ev.now _)))
end
theorem MdmarkFences : indenturelaw18_MdmarkFences.Pure := by
  intro s x hs hx
  refine Ev.rounds ?_
  unfold indenturelaw18_MdmarkFences.f
  by_cases hb : (s.size : Int) > 3000
  · exact ev_pos hb (Ev.now _)
  rw [fence_p s x (by omega), fence_p ⟨#[126, 126, 126, 126]⟩ 0 (by decide), show fenceS (hd ⟨#[126, 126, 126, 126]⟩) 0 = (126, 4, 4, 0, 0, 4, true) by kernel_rfl]
  refine ev_neg hb (Ev.bind (Ev.now _) (Ev.bind (fence_r s (by omega) x) (Ev.bind (Ev.now _) ?_)))
  rw [same_val]
  exact Ev.bind (Ev.now _) (ev_pos rfl (ev_pos rfl (ev_pos rfl reads_end)))
end Go.Proofs.YtgeddemohcbojaaDoor.Pure
