/- Texts joined: LibC, LibDp, LibEp, LibFp, LibH. No conditions but those that each theorem names. -/
import Derived.Test.YtgeddemohcbojaaDoorLibB
import Derived.Test.YtgeddemohcbojaaDoorQ6
import Derived.Test.YtgeddemohcbojaaDoorHandW
import Derived.Test.YtgeddemohcbojaaDoorHandX
import Derived.Test.YtgeddemohcbojaaDoorHandY
namespace Go.Proofs.YtgeddemohcbojaaDoor.Pure
open Go.RowKit Go.Proofs.YtgeddemohcbojaaDoor.P Go.Proofs.YtgeddemohcbojaaDoorW.PrintWords Go.Proofs.YtgeddemohcbojaaDoorW.PrintLast
set_option linter.unusedVariables false
set_option linter.unusedSimpArgs false

theorem row_hash_val (t : ByteArray) (a : Nat) (ha : a ≤ t.size) (hs : t.size ≤ 4294967296) :
    mdmark_row_string.f t (a : Int) 28 = some ((far (fun i => bt t (i : Int) == 35) (t.size - a) a - a : Nat) : Int) := by
  unfold mdmark_row_string.f
  rw [if_pos ⟨by omega, by omega, by omega⟩, if_pos rfl, Int.toNat_natCast, row_at t isHash (fun i => bt t (i : Int) == 35) a (fun i => rfl)]
theorem isEmpty_iff (t : ByteArray) : t.toList = ([] : List UInt8) ↔ t.size = 0 := empty_iff t

/-- Where a heading's content ends, and where it begins. -/
def hEnd (t : ByteArray) (b : Nat) : Nat :=
  let l := lastN t b
  let e := back (fun i => bt t (i : Int) == 35) (l - b) b
  if b < e ∧ blankI (bt t ((e - 1 : Nat) : Int)) = false then l else back (fun i => blankI (bt t (i : Int))) (e - b) b
def hFrom (t : ByteArray) (b e : Nat) : Nat := far (fun i => blankI (bt t (i : Int))) (e - b) b
theorem hEnd_le (t : ByteArray) (b : Nat) (h : b ≤ t.size) : b ≤ hEnd t b ∧ hEnd t b ≤ lastN t b := by
  obtain ⟨l1, l2, l3, l4⟩ := lastN_prop t b h
  obtain ⟨e1, e2, e3, e4⟩ := back_prop (q := fun i => bt t (i : Int) == 35) (lastN t b - b) b
  unfold hEnd
  dsimp only
  split
  · exact ⟨l1, Nat.le_refl _⟩
  · obtain ⟨f1, f2, f3, f4⟩ := back_prop (q := fun i => blankI (bt t (i : Int))) (back (fun i => bt t (i : Int) == 35) (lastN t b - b) b - b) b
    exact ⟨f1, by omega⟩
/-- What stands there as a heading; told by the text ahead of the line's end. -/
def headS (t : ByteArray) (x : Int) : Int × Int × Int × Int × Int × Int × Bool :=
  if 0 ≤ x ∧ x < (t.size : Int) ∧ bt t x = 35 ∧ behN t x.toNat - x.toNat ≤ 6 ∧ (decide (t.size ≤ behN t x.toNat) || blankI (bt t ((behN t x.toNat : Nat) : Int))) = true then
    (0, ((behN t x.toNat - x.toNat : Nat) : Int), ((behN t x.toNat : Nat) : Int), ((hFrom t (behN t x.toNat) (hEnd t (behN t x.toNat)) : Nat) : Int), ((hEnd t (behN t x.toNat) : Nat) : Int), ((lastN t (behN t x.toNat) : Nat) : Int), true)
  else (0, 0, 0, 0, 0, 0, false)

/-! ### the program's -/
theorem head_p_tail (t x6 : ByteArray) (b l e n : Nat) (hbl : b ≤ l) (hl : l ≤ t.size) (hs : t.size ≤ 4294967296) (he : e ≤ l) (hbe : b ≤ e) (v : ByteArray) (hv : v = t.extract b e) (u : Bool) (hu : u = (decide (e = b) || blankI (bt t ((e - 1 : Nat) : Int)))) (hll : b < l → blankI (bt t ((l - 1 : Nat) : Int)) = false) :
    Ev (fun k => mdmark_Head.j1 k (t.extract b l) v u 0 (n : Int) (b : Int) 0 0 (l : Int)) (0, (n : Int), (b : Int), ((hFrom t b (if b < e ∧ blankI (bt t ((e - 1 : Nat) : Int)) = false then l else back (fun i => blankI (bt t (i : Int))) (e - b) b) : Nat) : Int), (((if b < e ∧ blankI (bt t ((e - 1 : Nat) : Int)) = false then l else back (fun i => blankI (bt t (i : Int))) (e - b) b) : Nat) : Int), (l : Int), true) := by
  have key : ∀ r : Nat, b ≤ r → r ≤ l → ∃ y, strings_TrimLeft.f (t.extract b r) ⟨#[32, 9]⟩ = some y ∧ wrap64 (wrap64 ((b : Int) + ((t.extract b r).size : Int)) - (y.size : Int)) = ((hFrom t b r : Nat) : Int) ∧ wrap64 ((b : Int) + ((t.extract b r).size : Int)) = (r : Int) := by
    intro r h1 h2
    have hz := size_ext t b r (by omega)
    obtain ⟨f1, f2, f3, f4⟩ := far_prop (q := fun i => blankI (bt (t.extract b r) (i : Int))) (r - b) 0
    have hsh : b + far (fun i => blankI (bt (t.extract b r) (i : Int))) (r - b) 0 = far (fun i => blankI (bt t (i : Int))) (r - b) (b + 0) :=
      far_shift fun k k1 k2 => by rw [bt_ext t b r k (by omega) (by omega)]
    refine ⟨_, trimL_val _ _ _ tells_blank set_blank, ?_, ?_⟩
    · rw [hz, size_ext _ _ _ (by omega), w64 (x := (b : Int) + ((r - b : Nat) : Int)) (by omega) (by omega), w64 (by omega) (by omega)]
      unfold hFrom
      rw [Nat.add_zero] at hsh
      rw [← hsh]
      omega
    · rw [hz, w64 (by omega) (by omega)]; omega
  refine Ev.step (fun k => by rw [mdmark_Head.j1]) ?_
  by_cases h : b < e ∧ blankI (bt t ((e - 1 : Nat) : Int)) = false
  · rw [if_pos h]
    have hu0 : u = false := by rw [hu, decide_eq_false (by omega), h.2]; rfl
    refine ev_neg (by rw [hu0]; simp) ?_
    obtain ⟨y, y1, y2, y3⟩ := key l hbl (Nat.le_refl _)
    rw [y1]
    refine Ev.bind (Ev.now _) ?_
    rw [y2, y3]
    exact Ev.now _
  · rw [if_neg h]
    have hu1 : u = true := by
      rw [hu]
      by_cases hbe' : e = b
      · rw [decide_eq_true hbe']; rfl
      · have : blankI (bt t ((e - 1 : Nat) : Int)) = true := by
          cases hb : blankI (bt t ((e - 1 : Nat) : Int)) with
          | true => rfl
          | false => exact absurd ⟨by omega, hb⟩ h
        rw [this, Bool.or_true]
    refine ev_pos hu1 ?_
    have hz := size_ext t b e (by omega)
    obtain ⟨f1, f2, f3, f4⟩ := back_prop (q := fun i => blankI (bt t (i : Int))) (e - b) b
    have hsh : b + back (fun i => blankI (bt (t.extract b e) (i : Int))) (e - b) 0 = back (fun i => blankI (bt t (i : Int))) (e - b) (b + 0) :=
      back_shift fun k k1 k2 => by rw [bt_ext t b e k (by omega) (by omega)]
    rw [Nat.add_zero] at hsh
    have hr := trimR_val (t.extract b e) ⟨#[32, 9]⟩ _ tells_blank set_blank (by omega)
    rw [hz, ext_ext t b e 0 _ (by omega) (by omega), hsh, Nat.add_zero] at hr
    rw [hv, hr]
    refine Ev.bind (Ev.now _) ?_
    obtain ⟨y, y1, y2, y3⟩ := key (back (fun i => blankI (bt t (i : Int))) (e - b) b) f1 (by omega)
    rw [y1]
    refine Ev.bind (Ev.now _) ?_
    rw [y2, y3]
    exact Ev.now _
theorem head_p_yes (t : ByteArray) (a n : Nat) (hs : t.size ≤ 4294967296) (han : a + n ≤ t.size) :
    Ev (fun k => mdmark_Head.j0 k (a : Int) t (n : Int) false) (0, (n : Int), ((a + n : Nat) : Int), ((hFrom t (a + n) (hEnd t (a + n)) : Nat) : Int), ((hEnd t (a + n) : Nat) : Int), ((lastN t (a + n) : Nat) : Int), true) := by
  obtain ⟨l1, l2, l3, l4⟩ := lastN_prop t (a + n) han
  obtain ⟨e1, e2, e3, e4⟩ := back_prop (q := fun i => bt t (i : Int) == 35) (lastN t (a + n) - (a + n)) (a + n)
  have ew : wrap64 ((a : Int) + (n : Int)) = ((a + n : Nat) : Int) := by rw [w64 (by omega) (by omega)]; omega
  refine Ev.step (fun k => by rw [mdmark_Head.j0]) ?_
  refine ev_neg (by simp) ?_
  rw [ew, last_p t (a + n) han hs]
  refine Ev.bind (Ev.now _) (ev_pos (by omega) (ev_pos (by omega) (ev_pos (by omega) ?_)))
  rw [Int.toNat_natCast, Int.toNat_natCast]
  have hz := size_ext t (a + n) (lastN t (a + n)) l2
  have hsh : (a + n) + back (fun i => bt (t.extract (a + n) (lastN t (a + n))) (i : Int) == 35) (lastN t (a + n) - (a + n)) 0 = back (fun i => bt t (i : Int) == 35) (lastN t (a + n) - (a + n)) ((a + n) + 0) :=
    back_shift fun k k1 k2 => by rw [bt_ext t (a + n) _ k (by omega) (by omega)]
  rw [Nat.add_zero] at hsh
  have hr := trimR_val (t.extract (a + n) (lastN t (a + n))) ⟨#[35]⟩ _ tells_hash set_hash (by omega)
  rw [hz, ext_ext t (a + n) (lastN t (a + n)) 0 _ (by omega) (by omega), hsh, Nat.add_zero] at hr
  rw [hr]
  refine Ev.bind (Ev.now _) ?_
  have hzz := size_ext t (a + n) (back (fun i => bt t (i : Int) == 35) (lastN t (a + n) - (a + n)) (a + n)) (by omega)
  have tail := fun (u : Bool) hu => head_p_tail t t (a + n) (lastN t (a + n)) (back (fun i => bt t (i : Int) == 35) (lastN t (a + n) - (a + n)) (a + n)) n l1 l2 hs (by omega) e1 _ rfl u hu l4
  have hE : hEnd t (a + n) = (if a + n < back (fun i => bt t (i : Int) == 35) (lastN t (a + n) - (a + n)) (a + n) ∧ blankI (bt t ((back (fun i => bt t (i : Int) == 35) (lastN t (a + n) - (a + n)) (a + n) - 1 : Nat) : Int)) = false then lastN t (a + n) else back (fun i => blankI (bt t (i : Int))) (back (fun i => bt t (i : Int) == 35) (lastN t (a + n) - (a + n)) (a + n) - (a + n)) (a + n)) := rfl
  rw [hE]
  by_cases h0 : back (fun i => bt t (i : Int) == 35) (lastN t (a + n) - (a + n)) (a + n) = a + n
  · refine ev_pos (by rw [isEmpty_iff, hzz]; omega) (tail true ?_)
    rw [decide_eq_true h0]; rfl
  · refine ev_neg (by rw [isEmpty_iff, hzz]; omega) ?_
    rw [hzz, w64 (by omega) (by omega), show ((back (fun i => bt t (i : Int) == 35) (lastN t (a + n) - (a + n)) (a + n) - (a + n) : Nat) : Int) - 1 = ((back (fun i => bt t (i : Int) == 35) (lastN t (a + n) - (a + n)) (a + n) - (a + n) - 1 : Nat) : Int) by omega,
      parted_p _ _ (by rw [hzz]; omega), hzz, decide_eq_false (by omega), Bool.false_or, bt_ext t _ _ _ (by omega) (by omega), show a + n + (back (fun i => bt t (i : Int) == 35) (lastN t (a + n) - (a + n)) (a + n) - (a + n) - 1) = back (fun i => bt t (i : Int) == 35) (lastN t (a + n) - (a + n)) (a + n) - 1 by omega]
    refine Ev.bind (Ev.now _) (tail _ ?_)
    rw [decide_eq_false h0, Bool.false_or]
theorem head_p (s : ByteArray) (x : Int) (hs : s.size ≤ 4294967296) : Ev (fun k => mdmark_Head.f k s x) (headS (hd s) x) := by
  have hle := endN_le s
  have hz := hd_size s
  unfold mdmark_Head.f
  rw [ahead_val s x (by omega)]
  generalize hd s = t at hz ⊢
  refine Ev.bind (Ev.now _) ?_
  dsimp only
  unfold headS
  by_cases h : 0 ≤ x ∧ x < (t.size : Int)
  · obtain ⟨a, rfl⟩ := Int.eq_ofNat_of_zero_le h.1
    have ha : a < t.size := by omega
    simp only [Int.toNat_natCast]
    rw [decide_eq_true h]
    refine ev_pos rfl ?_
    rw [row_hash_val t a (by omega) (by omega)]
    refine Ev.bind (Ev.now _) ?_
    obtain ⟨p1, p2, p3, p4⟩ := behN_prop t a ha
    by_cases h35 : bt t (a : Int) = 35
    · have hfar : far (fun i => bt t (i : Int) == 35) (t.size - a) a = behN t a := by unfold behN; rw [h35]
      rw [hfar]
      refine ev_neg (by omega) ?_
      by_cases h6 : behN t a - a ≤ 6
      · refine ev_neg (by omega) ?_
        rw [w64 (by omega) (by omega), ← Int.natCast_add, show a + (behN t a - a) = behN t a by omega, parted_p t _ p2]
        refine Ev.bind (Ev.now _) ?_
        cases hp : (decide (t.size ≤ behN t a) || blankI (bt t ((behN t a : Nat) : Int))) with
        | true =>
          rw [if_pos ⟨h.1, h.2, h35, h6, rfl⟩]
          have := head_p_yes t a (behN t a - a) (by omega) (by omega)
          rw [show a + (behN t a - a) = behN t a by omega] at this
          exact this
        | false =>
          rw [if_neg (fun h' => by simp at h')]
          refine Ev.step (fun k => by rw [mdmark_Head.j0]) ?_
          exact ev_pos rfl (Ev.now _)
      · rw [if_neg (fun h' => h6 h'.2.2.2.1)]
        exact ev_pos (by omega) (Ev.step (fun k => by rw [mdmark_Head.j0]) (ev_pos rfl (Ev.now _)))
    · rw [if_neg (fun h' => h35 h'.2.2.1)]
      have hfar : far (fun i => bt t (i : Int) == 35) (t.size - a) a = a := far_eq (Nat.le_refl _) (by omega) (fun k h1 h2 => by omega) (fun _ => by simpa using h35)
      rw [hfar]
      exact ev_pos (by omega) (Ev.step (fun k => by rw [mdmark_Head.j0]) (ev_pos rfl (Ev.now _)))
  · rw [if_neg (fun h' => h ⟨h'.1, h'.2.1⟩), decide_eq_false h]
    exact ev_neg (by simp) (Ev.now _)

end Go.Proofs.YtgeddemohcbojaaDoor.Pure
namespace Go.Proofs.YtgeddemohcbojaaDoor.Pure
open Go.RowKit Go.Proofs.YtgeddemohcbojaaDoor.P Go.Proofs.YtgeddemohcbojaaDoorW.PrintWords Go.Proofs.YtgeddemohcbojaaDoorW.PrintLast
set_option linter.unusedVariables false
set_option linter.unusedSimpArgs false

def isUnder (t : ByteArray) (x : Int) : Bool := bt t x == 61 || bt t x == 45
def underS (t : ByteArray) (x : Int) : Int × Int × Int × Int × Int × Int × Bool :=
  if 0 ≤ x ∧ x < (t.size : Int) ∧ (bt t x = 61 ∨ bt t x = 45) ∧ lastN t (behN t x.toNat) = behN t x.toNat then
    (bt t x, ((behN t x.toNat - x.toNat : Nat) : Int), 0, 0, 0, ((behN t x.toNat : Nat) : Int), true)
  else (0, 0, 0, 0, 0, 0, false)
theorem far_beh (t : ByteArray) (a : Nat) : P.far (isB (bt t (a : Int))) t a = behN t a := by
  rw [row_at t (isB (bt t (a : Int))) (fun i => bt t (i : Int) == bt t (a : Int)) a (fun i => rfl)]; rfl
/-- The last place from a on is that from a row's end on, if what stands behind the row is no blank's row begun within it. -/
theorem last_beh (t : ByteArray) (a : Nat) (ha : a < t.size) (hb : blankI (bt t (a : Int)) = false) : lastN t a = lastN t (behN t a) := by
  obtain ⟨p1, p2, p3, p4⟩ := behN_prop t a ha
  obtain ⟨l1, l2, l3, l4⟩ := lastN_prop t (behN t a) p2
  refine back_eq (by omega) (by omega) (fun k h1 h2 => l3 k h1 (by omega)) (fun h => ?_)
  by_cases e : behN t a < lastN t (behN t a)
  · exact l4 e
  · have e2 : lastN t (behN t a) = behN t a := by omega
    rw [e2, p3 _ (by omega) (by omega)]
    exact hb
theorem under_p (s : ByteArray) (x : Int) (hs : s.size ≤ 4294967296) : mdmark_Under.f s x = some (underS (hd s) x) := by
  have hle := endN_le s
  have hz := hd_size s
  unfold mdmark_Under.f underS
  rw [ahead_val s x (by omega), Option.bind_some]
  generalize hd s = t at hz ⊢
  dsimp only
  by_cases h : 0 ≤ x ∧ x < (t.size : Int)
  · obtain ⟨a, rfl⟩ := Int.eq_ofNat_of_zero_le h.1
    have ha : a < t.size := by omega
    rw [decide_eq_true h, if_pos rfl, if_pos ⟨h.1, h.2, by omega⟩]
    simp only [Int.toNat_natCast]
    by_cases hc : bt t (a : Int) = 61 ∨ bt t (a : Int) = 45
    · rw [if_pos hc, last_p t a (by omega) (by omega), Option.bind_some, far_beh]
      have hbl : blankI (bt t (a : Int)) = false := by rcases hc with e | e <;> rw [e] <;> rfl
      rw [last_beh t a ha hbl]
      by_cases he : lastN t (behN t a) = behN t a
      · rw [if_pos (by omega), if_pos ⟨h.1, h.2, hc, he⟩]
      · rw [if_neg (by omega), if_neg (fun h' => he h'.2.2.2)]; rfl
    · rw [if_neg hc, if_neg (fun h' => hc h'.2.2.1)]; rfl
  · rw [decide_eq_false h, if_neg (by simp), if_neg (fun h' => h ⟨h'.1, h'.2.1⟩)]; rfl
/-! ### fences -/
/-- Where a grave accent stands behind a place. -/
def tick (t : ByteArray) (b : Nat) : Option Nat := fst (fun i => bt t (i : Int) == 96) (t.size - b) b
def fenceS (t : ByteArray) (x : Int) : Int × Int × Int × Int × Int × Int × Bool :=
  if 0 ≤ x ∧ x < (t.size : Int) ∧ (bt t x = 96 ∨ bt t x = 126) ∧ 3 ≤ behN t x.toNat - x.toNat ∧ (bt t x = 96 → tick t (behN t x.toNat) = none) then
    (bt t x, ((behN t x.toNat - x.toNat : Nat) : Int), ((behN t x.toNat : Nat) : Int), 0, 0, ((lastN t (behN t x.toNat) : Nat) : Int), true)
  else (0, 0, 0, 0, 0, 0, false)
theorem tick_p (t : ByteArray) (b : Nat) (hb : b ≤ t.size) : 0 ≤ Lib.indexByte (t.extract b t.size).data.toList 96 ↔ tick t b ≠ none := by
  have hz := size_ext t b t.size (Nat.le_refl _)
  rcases index_cases (t.extract b t.size) 96 with h | ⟨o, h⟩
  · rw [h]
    refine ⟨fun h' => by omega, fun h' => absurd (fst_no fun k h1 h2 => ?_) h'⟩
    have := index_none h (k - b) (by omega)
    rw [bt_ext t b t.size (k - b) (Nat.le_refl _) (by omega), show b + (k - b) = k by omega] at this
    simpa using this
  · rw [h]
    refine ⟨fun _ hn => ?_, fun _ => by omega⟩
    obtain ⟨h1, h2, h3⟩ := index_some h
    rw [bt_ext t b t.size o (Nat.le_refl _) (by omega)] at h2
    have := fst_none hn (b + o) (by omega) (by omega)
    simp at this
    exact this h2
theorem fence_p (s : ByteArray) (x : Int) (hs : s.size ≤ 4294967296) : mdmark_Fence.f s x = some (fenceS (hd s) x) := by
  have hle := endN_le s
  have hz := hd_size s
  unfold mdmark_Fence.f fenceS
  rw [ahead_val s x (by omega), Option.bind_some]
  generalize hd s = t at hz ⊢
  dsimp only
  by_cases h : 0 ≤ x ∧ x < (t.size : Int)
  · obtain ⟨a, rfl⟩ := Int.eq_ofNat_of_zero_le h.1
    have ha : a < t.size := by omega
    obtain ⟨p1, p2, p3, p4⟩ := behN_prop t a ha
    rw [decide_eq_true h, if_pos rfl, if_pos ⟨h.1, h.2, by omega⟩]
    simp only [Int.toNat_natCast]
    by_cases hc : bt t (a : Int) = 96 ∨ bt t (a : Int) = 126
    · rw [if_pos hc, far_beh]
      by_cases hn : behN t a - a < 3
      · rw [if_pos hn, if_neg (fun h' => by omega)]; rfl
      · rw [if_neg hn]
        by_cases ht : bt t (a : Int) = 96 ∧ 0 ≤ Lib.indexByte (t.extract (behN t a) t.size).data.toList 96
        · rw [if_pos ht, if_neg (fun h' => (tick_p t _ p2).1 ht.2 (h'.2.2.2.2 ht.1))]; rfl
        · rw [if_neg ht, last_p t _ p2 (by omega), Option.bind_some, if_pos ⟨h.1, h.2, hc, by omega, fun e => Classical.byContradiction fun h' => ht ⟨e, (tick_p t _ p2).2 h'⟩⟩]
    · rw [if_neg hc, if_neg (fun h' => hc h'.2.2.1)]; rfl
  · rw [decide_eq_false h, if_neg (by simp), if_neg (fun h' => h ⟨h'.1, h'.2.1⟩)]; rfl
end Go.Proofs.YtgeddemohcbojaaDoor.Pure
namespace Go.Proofs.YtgeddemohcbojaaDoor.Pure
open Go.RowKit Go.Proofs.YtgeddemohcbojaaDoor.P Go.Proofs.YtgeddemohcbojaaDoorW.PrintWords Go.Proofs.YtgeddemohcbojaaDoorW.PrintLast
set_option linter.unusedVariables false
set_option linter.unusedSimpArgs false

/-- What a count tells. -/
def ruleFin (t : ByteArray) (a : Nat) : Option Nat → Int × Int × Int × Int × Int × Int × Bool
  | none => (0, 0, 0, 0, 0, 0, false)
  | some n => if n < 3 then (0, 0, 0, 0, 0, 0, false) else (bt t (a : Int), (n : Int), 0, 0, 0, ((lastN t a : Nat) : Int), true)
def ruleS (t : ByteArray) (x : Int) : Int × Int × Int × Int × Int × Int × Bool :=
  if 0 ≤ x ∧ x < (t.size : Int) ∧ (bt t x = 42 ∨ bt t x = 45 ∨ bt t x = 95) then ruleFin t x.toNat (ruleGo t (bt t x) (t.size - x.toNat) x.toNat 0) else (0, 0, 0, 0, 0, 0, false)
theorem ruleGo_shift (t : ByteArray) (c : Int) (a b : Nat) (hb : b ≤ t.size) : ∀ (m k n : Nat), k + m ≤ b - a → ruleGo (t.extract a b) c m k n = ruleGo t c m (a + k) n
  | 0, k, n, h => rfl
  | m + 1, k, n, h => by
    unfold ruleGo
    rw [bt_ext t a b k hb (by omega), ruleGo_shift t c a b hb m (k + 1) (n + 1) (by omega), ruleGo_shift t c a b hb m (k + 1) n (by omega)]
    rfl
theorem ruleGo_blank (t : ByteArray) (c : Int) (hc : blankI c = false) : ∀ (m k n : Nat), (∀ j : Nat, k ≤ j → j < k + m → blankI (bt t (j : Int)) = true) → ruleGo t c m k n = some n
  | 0, k, n, h => rfl
  | m + 1, k, n, h => by
    unfold ruleGo
    have hk := h k (Nat.le_refl _) (by omega)
    rw [if_neg (fun e => by rw [e, hc] at hk; cases hk), if_pos (by simpa [blankI] using hk)]
    exact ruleGo_blank t c hc m (k + 1) n fun j h1 h2 => h j (by omega) (by omega)
theorem ruleGo_cut (t : ByteArray) (c : Int) (hc : blankI c = false) (d : Nat) : ∀ (m k n : Nat), (∀ j : Nat, k + m ≤ j → j < k + m + d → blankI (bt t (j : Int)) = true) → ruleGo t c (m + d) k n = ruleGo t c m k n
  | 0, k, n, h => by rw [Nat.zero_add]; exact (ruleGo_blank t c hc d k n fun j h1 h2 => h j (by omega) (by omega)).trans rfl
  | m + 1, k, n, h => by
    rw [show m + 1 + d = (m + d) + 1 by omega]
    unfold ruleGo
    rw [ruleGo_cut t c hc d m (k + 1) (n + 1) fun j h1 h2 => h j (by omega) (by omega), ruleGo_cut t c hc d m (k + 1) n fun j h1 h2 => h j (by omega) (by omega)]
theorem rule_p (s : ByteArray) (x : Int) (hs : s.size ≤ 4294967296) : mdmark_Rule.f s x = some (ruleS (hd s) x) := by
  have hle := endN_le s
  have hz := hd_size s
  unfold mdmark_Rule.f ruleS
  rw [ahead_val s x (by omega), Option.bind_some]
  generalize hd s = t at hz ⊢
  dsimp only
  by_cases h : 0 ≤ x ∧ x < (t.size : Int)
  · obtain ⟨a, rfl⟩ := Int.eq_ofNat_of_zero_le h.1
    have ha : a < t.size := by omega
    obtain ⟨l1, l2, l3, l4⟩ := lastN_prop t a (by omega)
    rw [decide_eq_true h, if_pos rfl, if_pos ⟨h.1, h.2, by omega⟩]
    simp only [Int.toNat_natCast]
    by_cases hc : bt t (a : Int) = 42 ∨ bt t (a : Int) = 45 ∨ bt t (a : Int) = 95
    · have hbl : blankI (bt t (a : Int)) = false := by rcases hc with e | e | e <;> rw [e] <;> rfl
      rw [if_pos ((idx3 42 45 95 _ (bt_pos t _)).2 hc), last_p t a (by omega) (by omega), Option.bind_some, if_pos ⟨by omega, by omega⟩, if_pos ⟨h.1, h.2, hc⟩, Int.toNat_natCast,
        ruleGo_shift t _ a (lastN t a) l2 _ 0 0 (by omega), Nat.add_zero]
      have e := ruleGo_cut t (bt t (a : Int)) hbl (t.size - lastN t a) (lastN t a - a) a 0 fun j h1 h2 => l3 j (by omega) (by omega)
      rw [show lastN t a - a + (t.size - lastN t a) = t.size - a by omega] at e
      rw [e]
      cases ruleGo t (bt t (a : Int)) (lastN t a - a) a 0 with
      | none => rfl
      | some n => rfl
    · rw [if_neg (fun h' => hc ((idx3 42 45 95 _ (bt_pos t _)).1 h')), if_neg (fun h' => hc h'.2.2)]; rfl
  · rw [decide_eq_false h, if_neg (by simp), if_neg (fun h' => h ⟨h'.1, h'.2.1⟩)]; rfl
end Go.Proofs.YtgeddemohcbojaaDoor.Pure
namespace Go.Proofs.YtgeddemohcbojaaDoor.Pure
open Go.RowKit Go.Proofs.YtgeddemohcbojaaDoor.P Go.Proofs.YtgeddemohcbojaaDoorW.PrintWords Go.Proofs.YtgeddemohcbojaaDoorW.PrintLast
set_option linter.unusedVariables false
set_option linter.unusedSimpArgs false

theorem idx3' (b : Int) (h : 0 ≤ b ∧ b ≤ 255) : 0 ≤ Lib.indexByte [45, 43, 42] b.toNat.toUInt8 ↔ (b = 45 ∨ b = 43 ∨ b = 42) := idx3 45 43 42 b h
/-- What stands there, the mark ending at q. -/
def tailS (t : ByteArray) (ch cnt : Int) (q : Nat) : Int × Int × Int × Int × Int × Int × Bool :=
  if (decide (t.size ≤ q) || blankI (bt t (q : Int))) = true then (ch, cnt, (q : Int), 0, 0, ((lastN t q : Nat) : Int), true) else (0, 0, 0, 0, 0, 0, false)
def digN (t : ByteArray) (a : Nat) : Nat := far (fun i => isDigit (bt t (i : Int))) (t.size - a) a - a
def itemS (t : ByteArray) (x : Int) : Int × Int × Int × Int × Int × Int × Bool :=
  if 0 ≤ x ∧ x < (t.size : Int) then
    (if bt t x = 45 ∨ bt t x = 43 ∨ bt t x = 42 then tailS t (bt t x) 0 (x.toNat + 1)
     else if digN t x.toNat < 1 ∨ 9 < digN t x.toNat ∨ x.toNat + digN t x.toNat = t.size ∨ (bt t ((x.toNat + digN t x.toNat : Nat) : Int) ≠ 46 ∧ bt t ((x.toNat + digN t x.toNat : Nat) : Int) ≠ 41) then (0, 0, 0, 0, 0, 0, false)
     else tailS t (bt t ((x.toNat + digN t x.toNat : Nat) : Int)) (itemGo t (digN t x.toNat) x.toNat 0) (x.toNat + digN t x.toNat + 1))
  else (0, 0, 0, 0, 0, 0, false)
theorem digN_prop (t : ByteArray) (a : Nat) (ha : a ≤ t.size) : a + digN t a ≤ t.size ∧ (∀ k : Nat, a ≤ k → k < a + digN t a → isDigit (bt t (k : Int)) = true) ∧ (a + digN t a < t.size → isDigit (bt t ((a + digN t a : Nat) : Int)) = false) := by
  obtain ⟨b1, b2, b3, b4⟩ := far_prop (q := fun i => isDigit (bt t (i : Int))) (t.size - a) a
  have e : a + digN t a = far (fun i => isDigit (bt t (i : Int))) (t.size - a) a := by unfold digN; omega
  refine ⟨by omega, fun k h1 h2 => b3 k h1 (by omega), fun h => ?_⟩
  rw [e]
  exact b4 (by omega)
theorem dig_len (t : ByteArray) (a : Nat) : itemLen t a = digN t a := by
  unfold itemLen digN
  rw [row_at t isDigit (fun i => isDigit (bt t (i : Int))) a (fun i => rfl)]
theorem itemGo_shift (t : ByteArray) (a b : Nat) (hb : b ≤ t.size) : ∀ (m k : Nat) (n : Int), k + m ≤ b - a → itemGo (t.extract a b) m k n = itemGo t m (a + k) n
  | 0, k, n, h => rfl
  | m + 1, k, n, h => by
    unfold itemGo
    rw [bt_ext t a b k hb (by omega), itemGo_shift t a b hb m (k + 1) _ (by omega)]
    rfl
theorem tail_p (t : ByteArray) (ch cnt : Int) (q : Nat) (hq : q ≤ t.size) (hs : t.size ≤ 4294967296) : itemTail t ch cnt (q : Int) = some (tailS t ch cnt q) := by
  unfold itemTail tailS
  rw [parted_p t q hq, Option.bind_some]
  by_cases h : (decide (t.size ≤ q) || blankI (bt t (q : Int))) = true
  · rw [if_pos h, if_pos h, last_p t q hq hs]; rfl
  · rw [if_neg h, if_neg h]; rfl
theorem item_p (s : ByteArray) (x : Int) (hs : s.size ≤ 4294967296) : mdmark_Item.f s x = some (itemS (hd s) x) := by
  have hle := endN_le s
  have hz := hd_size s
  unfold mdmark_Item.f itemS
  rw [ahead_val s x (by omega), Option.bind_some]
  generalize hd s = t at hz ⊢
  dsimp only
  by_cases h : 0 ≤ x ∧ x < (t.size : Int)
  · obtain ⟨a, rfl⟩ := Int.eq_ofNat_of_zero_le h.1
    have ha : a < t.size := by omega
    rw [decide_eq_true h, if_pos rfl, if_pos ⟨h.1, h.2, by omega⟩, if_pos h]
    simp only [Int.toNat_natCast]
    by_cases hc : bt t (a : Int) = 45 ∨ bt t (a : Int) = 43 ∨ bt t (a : Int) = 42
    · rw [if_pos ((idx3' _ (bt_pos t _)).2 hc), if_pos hc, show (a : Int) + 1 = ((a + 1 : Nat) : Int) by omega, tail_p t _ _ _ (by omega) (by omega)]
    · rw [if_neg (fun h' => hc ((idx3' _ (bt_pos t _)).1 h')), if_neg hc, dig_len]
      obtain ⟨d1, d2, d3⟩ := digN_prop t a (by omega)
      by_cases hb : digN t a < 1 ∨ 9 < digN t a ∨ a + digN t a = t.size ∨ (bt t ((a + digN t a : Nat) : Int) ≠ 46 ∧ bt t ((a + digN t a : Nat) : Int) ≠ 41)
      · rw [if_pos hb, if_pos hb]; rfl
      · rw [if_neg hb, if_neg hb, itemGo_shift t a _ d1 _ 0 0 (by omega), Nat.add_zero, tail_p t _ _ _ (by omega) (by omega)]
  · rw [decide_eq_false h, if_neg (by simp), if_neg h]; rfl
end Go.Proofs.YtgeddemohcbojaaDoor.Pure
namespace Go.Proofs.YtgeddemohcbojaaDoor.Pure
open Go.RowKit Go.Proofs.YtgeddemohcbojaaDoor.P Go.Proofs.YtgeddemohcbojaaDoorW.PrintWords Go.Proofs.YtgeddemohcbojaaDoorW.PrintLast
set_option linter.unusedVariables false
set_option linter.unusedSimpArgs false

abbrev M7 := Int × Int × Int × Int × Int × Int × Bool
def none7 : M7 := (0, 0, 0, 0, 0, 0, false)
/-- What a mark that stands at x tells. -/
structure Stands (t : ByteArray) (x : Int) (m : M7) : Prop where
  yes : m.2.2.2.2.2.2 = true
  x0 : 0 ≤ x
  lt : x < m.2.2.2.2.2.1
  le : m.2.2.2.2.2.1 ≤ (t.size : Int)
  tole : m.2.2.1 ≤ m.2.2.2.2.2.1
  frle : m.2.2.2.1 ≤ m.2.2.2.2.1
  enle : m.2.2.2.2.1 ≤ m.2.2.2.2.2.1
  lastb : blankI (bt t (m.2.2.2.2.2.1 - 1)) = false
  restb : ∀ k : Nat, m.2.2.2.2.2.1 ≤ (k : Int) → k < t.size → blankI (bt t (k : Int)) = true
theorem stands_mk {t : ByteArray} {a q l : Nat} {c n e f : Int} (haq : a < q) (hq : q ≤ t.size) (hl : l = lastN t q) (hf : f ≤ e) (he : e ≤ l) (hlast : blankI (bt t ((q - 1 : Nat) : Int)) = false) (o : Int) (hto : o ≤ l) : Stands t (a : Int) (c, n, o, f, e, (l : Int), true) := by
  obtain ⟨l1, l2, l3, l4⟩ := lastN_prop t q hq
  subst hl
  refine ⟨rfl, by omega, by show (a : Int) < ((lastN t q : Nat) : Int); omega, by show ((lastN t q : Nat) : Int) ≤ _; omega, hto, hf, he, ?_, fun k h1 h2 => l3 k (by have : ((lastN t q : Nat) : Int) ≤ k := h1; omega) h2⟩
  show blankI (bt t (((lastN t q : Nat) : Int) - 1)) = false
  rw [show ((lastN t q : Nat) : Int) - 1 = ((lastN t q - 1 : Nat) : Int) by omega]
  by_cases h : q < lastN t q
  · exact l4 h
  · rw [show lastN t q = q by omega]; exact hlast
theorem beh_last {t : ByteArray} {a : Nat} (ha : a < t.size) (hb : blankI (bt t (a : Int)) = false) : blankI (bt t ((behN t a - 1 : Nat) : Int)) = false := by
  obtain ⟨p1, p2, p3, p4⟩ := behN_prop t a ha
  rw [p3 _ (by omega) (by omega)]
  exact hb
theorem hFrom_le (t : ByteArray) (b e : Nat) (h : b ≤ e) : hFrom t b e ≤ e := by
  obtain ⟨f1, f2, f3, f4⟩ := far_prop (q := fun i => blankI (bt t (i : Int))) (e - b) b
  unfold hFrom
  omega
theorem head_cases (t : ByteArray) (x : Int) : headS t x = none7 ∨ (0 ≤ x ∧ x < (t.size : Int) ∧ bt t x = 35 ∧ Stands t x (headS t x)) := by
  unfold headS
  split
  · rename_i h
    right
    obtain ⟨h0, h1, h2, h3, h4⟩ := h
    obtain ⟨a, rfl⟩ := Int.eq_ofNat_of_zero_le h0
    simp only [Int.toNat_natCast]
    obtain ⟨p1, p2, p3, p4⟩ := behN_prop t a (by omega)
    obtain ⟨e1, e2⟩ := hEnd_le t (behN t a) p2
    obtain ⟨l1, l2, l3, l4⟩ := lastN_prop t (behN t a) p2
    refine ⟨h0, h1, h2, stands_mk p1 p2 rfl ?_ ?_ (beh_last (by omega) (by rw [h2]; rfl)) _ ?_⟩
    · have := hFrom_le t (behN t a) (hEnd t (behN t a)) e1; omega
    · omega
    · omega
  · exact .inl rfl
theorem fence_cases (t : ByteArray) (x : Int) : fenceS t x = none7 ∨ (0 ≤ x ∧ x < (t.size : Int) ∧ (bt t x = 96 ∨ bt t x = 126) ∧ Stands t x (fenceS t x)) := by
  unfold fenceS
  split
  · rename_i h
    right
    obtain ⟨h0, h1, h2, h3, h4⟩ := h
    obtain ⟨a, rfl⟩ := Int.eq_ofNat_of_zero_le h0
    simp only [Int.toNat_natCast]
    obtain ⟨p1, p2, p3, p4⟩ := behN_prop t a (by omega)
    obtain ⟨l1, l2, l3, l4⟩ := lastN_prop t (behN t a) p2
    exact ⟨h0, h1, h2, stands_mk p1 p2 rfl (Int.le_refl _) (by omega) (beh_last (by omega) (by rcases h2 with e | e <;> rw [e] <;> rfl)) _ (by omega)⟩
  · exact .inl rfl
theorem under_cases (t : ByteArray) (x : Int) : underS t x = none7 ∨ (0 ≤ x ∧ x < (t.size : Int) ∧ (bt t x = 61 ∨ bt t x = 45) ∧ Stands t x (underS t x)) := by
  unfold underS
  split
  · rename_i h
    right
    obtain ⟨h0, h1, h2, h3⟩ := h
    obtain ⟨a, rfl⟩ := Int.eq_ofNat_of_zero_le h0
    simp only [Int.toNat_natCast] at h3 ⊢
    obtain ⟨p1, p2, p3, p4⟩ := behN_prop t a (by omega)
    exact ⟨h0, h1, h2, stands_mk p1 p2 h3.symm (Int.le_refl _) (by omega) (beh_last (by omega) (by rcases h2 with e | e <;> rw [e] <;> rfl)) _ (by omega)⟩
  · exact .inl rfl
theorem rule_cases (t : ByteArray) (x : Int) : ruleS t x = none7 ∨ (0 ≤ x ∧ x < (t.size : Int) ∧ (bt t x = 42 ∨ bt t x = 45 ∨ bt t x = 95) ∧ Stands t x (ruleS t x) ∧ (ruleS t x).1 = bt t x ∧ 3 ≤ (ruleS t x).2.1 ∧ ruleGo t (bt t x) (t.size - x.toNat) x.toNat 0 = some (ruleS t x).2.1.toNat ∧ (ruleS t x).2.2.2.2.2.1 = (lastN t x.toNat : Nat)) := by
  unfold ruleS
  split
  · rename_i h
    obtain ⟨h0, h1, h2⟩ := h
    obtain ⟨a, rfl⟩ := Int.eq_ofNat_of_zero_le h0
    simp only [Int.toNat_natCast]
    have hb : blankI (bt t (a : Int)) = false := by rcases h2 with e | e | e <;> rw [e] <;> rfl
    cases hg : ruleGo t (bt t (a : Int)) (t.size - a) a 0 with
    | none => exact .inl rfl
    | some n =>
      unfold ruleFin
      dsimp only
      split
      · exact .inl rfl
      · rename_i hn
        right
        obtain ⟨p1, p2, p3, p4⟩ := behN_prop t a (by omega)
        obtain ⟨l1, l2, l3, l4⟩ := lastN_prop t (behN t a) p2
        have hl := last_beh t a (by omega) hb
        refine ⟨h0, h1, h2, ?_, rfl, by show (3 : Int) ≤ (n : Int); omega, rfl, rfl⟩
        exact stands_mk p1 p2 hl (Int.le_refl _) (by omega) (beh_last (by omega) hb) _ (by omega)
  · exact .inl rfl
theorem item_cases (t : ByteArray) (x : Int) : itemS t x = none7 ∨ (0 ≤ x ∧ x < (t.size : Int) ∧ Stands t x (itemS t x) ∧
    (((bt t x = 45 ∨ bt t x = 43 ∨ bt t x = 42) ∧ (itemS t x).1 = bt t x ∧ ((t.size : Int) ≤ x + 1 ∨ blankI (bt t (x + 1)) = true)) ∨ (48 ≤ bt t x ∧ bt t x ≤ 57))) := by
  have tail : ∀ (a q : Nat) (c n : Int), a < q → q ≤ t.size → blankI (bt t ((q - 1 : Nat) : Int)) = false → tailS t c n q = none7 ∨ (Stands t (a : Int) (tailS t c n q) ∧ (tailS t c n q).1 = c ∧ ((t.size : Int) ≤ q ∨ blankI (bt t (q : Int)) = true)) := by
    intro a q c n h1 h2 h3
    unfold tailS
    split
    · rename_i h
      obtain ⟨l1, l2, l3, l4⟩ := lastN_prop t q h2
      simp only [Bool.or_eq_true, decide_eq_true_eq] at h
      exact .inr ⟨stands_mk h1 h2 rfl (Int.le_refl _) (by omega) h3 _ (by omega), rfl, h.imp (fun h => by omega) id⟩
    · exact .inl rfl
  unfold itemS
  split
  · rename_i h
    obtain ⟨h0, h1⟩ := h
    obtain ⟨a, rfl⟩ := Int.eq_ofNat_of_zero_le h0
    simp only [Int.toNat_natCast]
    split
    · rename_i hc
      have hb : blankI (bt t (a : Int)) = false := by rcases hc with e | e | e <;> rw [e] <;> rfl
      rcases tail a (a + 1) (bt t (a : Int)) 0 (by omega) (by omega) (by rw [show a + 1 - 1 = a by omega]; exact hb) with e | ⟨e1, e2, e3⟩
      · exact .inl e
      · exact .inr ⟨h0, h1, e1, .inl ⟨hc, e2, e3.imp (fun h => by omega) (fun h => by simpa using h)⟩⟩
    · rename_i hc
      split
      · exact .inl rfl
      · rename_i hd
        obtain ⟨d1, d2, d3⟩ := digN_prop t a (by omega)
        have hdg := d2 a (Nat.le_refl _) (by omega)
        simp only [isDigit, Bool.and_eq_true, decide_eq_true_eq] at hdg
        have hq : bt t ((a + digN t a : Nat) : Int) = 46 ∨ bt t ((a + digN t a : Nat) : Int) = 41 := by omega
        rcases tail a (a + digN t a + 1) (bt t ((a + digN t a : Nat) : Int)) (itemGo t (digN t a) a 0) (by omega) (by omega) (by rw [show a + digN t a + 1 - 1 = a + digN t a by omega]; rcases hq with e | e <;> rw [e] <;> rfl) with e | ⟨e1, e2, e3⟩
        · exact .inl e
        · exact .inr ⟨h0, h1, e1, .inr hdg⟩
  · exact .inl rfl
theorem ruleGo_row (t : ByteArray) (c : Int) : ∀ (m k n : Nat), (∀ j : Nat, k ≤ j → j < k + m → bt t (j : Int) = c) → ruleGo t c m k n = some (n + m)
  | 0, k, n, h => rfl
  | m + 1, k, n, h => by
    unfold ruleGo
    rw [if_pos (h k (Nat.le_refl _) (by omega)), ruleGo_row t c m (k + 1) (n + 1) fun j h1 h2 => h j (by omega) (by omega)]
    congr 1
    omega
/-- A break that is an underline. -/
theorem rule_under (t : ByteArray) (x : Int) (hr : ruleS t x ≠ none7) (hu : underS t x ≠ none7) : (ruleS t x).1 = 45 ∧ (underS t x).1 = 45 ∧ 3 ≤ (underS t x).2.1 ∧ (ruleS t x).2.1 = (underS t x).2.1 ∧ (ruleS t x).2.2.2.2.2.1 = (underS t x).2.2.2.2.2.1 := by
  rcases rule_cases t x with e | ⟨h0, h1, h2, -, h3, h4, h5, h6⟩
  · exact absurd e hr
  unfold underS at hu ⊢
  split at hu
  · rename_i hg
    rw [if_pos hg]
    obtain ⟨-, -, g1, g2⟩ := hg
    obtain ⟨a, rfl⟩ := Int.eq_ofNat_of_zero_le h0
    simp only [Int.toNat_natCast] at h5 h6 g2 ⊢
    have e45 : bt t (a : Int) = 45 := by omega
    have hb : blankI (bt t (a : Int)) = false := by rw [e45]; rfl
    obtain ⟨p1, p2, p3, p4⟩ := behN_prop t a (by omega)
    obtain ⟨l1, l2, l3, l4⟩ := lastN_prop t (behN t a) p2
    have hcut := ruleGo_cut t (bt t (a : Int)) hb (t.size - behN t a) (behN t a - a) a 0 fun j h1 h2 => l3 j (by omega) (by omega)
    rw [show behN t a - a + (t.size - behN t a) = t.size - a by omega, h5, ruleGo_row t _ _ _ _ fun j k1 k2 => p3 j k1 (by omega), Nat.zero_add] at hcut
    have hn := Option.some.inj hcut
    have hl := last_beh t a (by omega) hb
    refine ⟨h3.trans e45, e45, ?_, ?_, ?_⟩
    · show (3 : Int) ≤ ((behN t a - a : Nat) : Int); omega
    · show (ruleS t (a : Int)).2.1 = ((behN t a - a : Nat) : Int); omega
    · rw [h6, hl, g2]
  · exact absurd rfl hu
/-- A break that is an item's mark. -/
theorem rule_item (t : ByteArray) (x : Int) (hr : ruleS t x ≠ none7) (hi : itemS t x ≠ none7) : (itemS t x).1 = (ruleS t x).1 ∧ (ruleS t x).1 ≠ 95 ∧ x + 1 < (t.size : Int) ∧ blankI (bt t (x + 1)) = true := by
  rcases rule_cases t x with e | ⟨h0, h1, h2, -, h3, h4, h5, h6⟩
  · exact absurd e hr
  rcases item_cases t x with e | ⟨-, -, -, g⟩
  · exact absurd e hi
  have hsz : x + 1 < (t.size : Int) := by
    by_cases h : x + 1 < (t.size : Int)
    · exact h
    · exfalso
      obtain ⟨a, rfl⟩ := Int.eq_ofNat_of_zero_le h0
      simp only [Int.toNat_natCast] at h5
      rw [show t.size - a = 1 by omega, ruleGo_row t _ 1 a 0 fun j k1 k2 => by rw [show j = a by omega]] at h5
      have := Option.some.inj h5
      omega
  rcases g with ⟨g1, g2, g3⟩ | g
  · refine ⟨g2.trans h3.symm, by rw [h3]; omega, hsz, ?_⟩
    rcases g3 with g3 | g3
    · omega
    · exact g3
  · exfalso; omega
/-- No break is both. -/
theorem rule_under_item (t : ByteArray) (x : Int) (hr : ruleS t x ≠ none7) (hu : underS t x ≠ none7) (hi : itemS t x ≠ none7) : False := by
  obtain ⟨-, -, hsz, hbl⟩ := rule_item t x hr hi
  obtain ⟨e1, e2, e3, -, -⟩ := rule_under t x hr hu
  unfold underS at hu e2 e3
  split at hu
  · rename_i hg
    rw [if_pos hg] at e2 e3
    obtain ⟨h0, h1, g1, g2⟩ := hg
    obtain ⟨a, rfl⟩ := Int.eq_ofNat_of_zero_le h0
    simp only [Int.toNat_natCast] at e3
    have e3' : (3 : Int) ≤ ((behN t a - a : Nat) : Int) := e3
    obtain ⟨p1, p2, p3, p4⟩ := behN_prop t a (by omega)
    have := p3 (a + 1) (by omega) (by omega)
    have e2' : bt t (a : Int) = 45 := e2
    rw [show ((a + 1 : Nat) : Int) = (a : Int) + 1 by omega, e2'] at this
    rw [this] at hbl
    cases hbl
  · exact absurd rfl hu
end Go.Proofs.YtgeddemohcbojaaDoor.Pure
