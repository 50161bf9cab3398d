/- Plain lemmas: a heading, as the program tells it. Conditions: texts of at most 2^32 bytes. -/
import Derived.Test.YtgeddemohcbojaaDoorLibB
import Derived.Test.YtgeddemohcbojaaDoorQ6
namespace Go.Proofs.YtgeddemohcbojaaDoor.Pure
open Go.RowKit Go.Proofs.YtgeddemohcbojaaDoor.P Go.Proofs.YtgeddemohcbojaaDoorW.PrintWords Go.Proofs.YtgeddemohcbojaaDoorW.PrintLast
set_option linter.unusedVariables false
set_option linter.unusedSimpArgs false

theorem row_hash_val (t : ByteArray) (a : Nat) (ha : a ≤ t.size) (hs : t.size ≤ 4294967296) :
    mdmark_row_string.f t (a : Int) 28 = some ((far (fun i => bt t (i : Int) == 35) (t.size - a) a - a : Nat) : Int) := by
  unfold mdmark_row_string.f
  rw [if_pos ⟨by omega, by omega, by omega⟩, if_pos rfl, Int.toNat_natCast, row_at t isHash (fun i => bt t (i : Int) == 35) a (fun i => rfl)]
theorem isEmpty_iff (t : ByteArray) : t.toList = ([] : List UInt8) ↔ t.size = 0 := empty_iff t

/-- Where a heading's content ends, and where it begins. -/
def hEnd (t : ByteArray) (b : Nat) : Nat :=
  let l := lastN t b
  let e := back (fun i => bt t (i : Int) == 35) (l - b) b
  if b < e ∧ blankI (bt t ((e - 1 : Nat) : Int)) = false then l else back (fun i => blankI (bt t (i : Int))) (e - b) b
def hFrom (t : ByteArray) (b e : Nat) : Nat := far (fun i => blankI (bt t (i : Int))) (e - b) b
theorem hEnd_le (t : ByteArray) (b : Nat) (h : b ≤ t.size) : b ≤ hEnd t b ∧ hEnd t b ≤ lastN t b := by
  obtain ⟨l1, l2, l3, l4⟩ := lastN_prop t b h
  obtain ⟨e1, e2, e3, e4⟩ := back_prop (q := fun i => bt t (i : Int) == 35) (lastN t b - b) b
  unfold hEnd
  dsimp only
  split
  · exact ⟨l1, Nat.le_refl _⟩
  · obtain ⟨f1, f2, f3, f4⟩ := back_prop (q := fun i => blankI (bt t (i : Int))) (back (fun i => bt t (i : Int) == 35) (lastN t b - b) b - b) b
    exact ⟨f1, by omega⟩
/-- What stands there as a heading; told by the text ahead of the line's end. -/
def headS (t : ByteArray) (x : Int) : Int × Int × Int × Int × Int × Int × Bool :=
  if 0 ≤ x ∧ x < (t.size : Int) ∧ bt t x = 35 ∧ behN t x.toNat - x.toNat ≤ 6 ∧ (decide (t.size ≤ behN t x.toNat) || blankI (bt t ((behN t x.toNat : Nat) : Int))) = true then
    (0, ((behN t x.toNat - x.toNat : Nat) : Int), ((behN t x.toNat : Nat) : Int), ((hFrom t (behN t x.toNat) (hEnd t (behN t x.toNat)) : Nat) : Int), ((hEnd t (behN t x.toNat) : Nat) : Int), ((lastN t (behN t x.toNat) : Nat) : Int), true)
  else (0, 0, 0, 0, 0, 0, false)

/-! ### the program's -/
theorem head_p_tail (t x6 : ByteArray) (b l e n : Nat) (hbl : b ≤ l) (hl : l ≤ t.size) (hs : t.size ≤ 4294967296) (he : e ≤ l) (hbe : b ≤ e) (v : ByteArray) (hv : v = t.extract b e) (u : Bool) (hu : u = (decide (e = b) || blankI (bt t ((e - 1 : Nat) : Int)))) (hll : b < l → blankI (bt t ((l - 1 : Nat) : Int)) = false) :
    Ev (fun k => mdmark_Head.j1 k (t.extract b l) v u 0 (n : Int) (b : Int) 0 0 (l : Int)) (0, (n : Int), (b : Int), ((hFrom t b (if b < e ∧ blankI (bt t ((e - 1 : Nat) : Int)) = false then l else back (fun i => blankI (bt t (i : Int))) (e - b) b) : Nat) : Int), (((if b < e ∧ blankI (bt t ((e - 1 : Nat) : Int)) = false then l else back (fun i => blankI (bt t (i : Int))) (e - b) b) : Nat) : Int), (l : Int), true) := by
  have key : ∀ r : Nat, b ≤ r → r ≤ l → ∃ y, strings_TrimLeft.f (t.extract b r) ⟨#[32, 9]⟩ = some y ∧ wrap64 (wrap64 ((b : Int) + ((t.extract b r).size : Int)) - (y.size : Int)) = ((hFrom t b r : Nat) : Int) ∧ wrap64 ((b : Int) + ((t.extract b r).size : Int)) = (r : Int) := by
    intro r h1 h2
    have hz := size_ext t b r (by omega)
    obtain ⟨f1, f2, f3, f4⟩ := far_prop (q := fun i => blankI (bt (t.extract b r) (i : Int))) (r - b) 0
    have hsh : b + far (fun i => blankI (bt (t.extract b r) (i : Int))) (r - b) 0 = far (fun i => blankI (bt t (i : Int))) (r - b) (b + 0) :=
      far_shift fun k k1 k2 => by rw [bt_ext t b r k (by omega) (by omega)]
    refine ⟨_, trimL_val _ _ _ tells_blank set_blank, ?_, ?_⟩
    · rw [hz, size_ext _ _ _ (by omega), w64 (x := (b : Int) + ((r - b : Nat) : Int)) (by omega) (by omega), w64 (by omega) (by omega)]
      unfold hFrom
      rw [Nat.add_zero] at hsh
      rw [← hsh]
      omega
    · rw [hz, w64 (by omega) (by omega)]; omega
  refine Ev.step (fun k => by rw [mdmark_Head.j1]) ?_
  by_cases h : b < e ∧ blankI (bt t ((e - 1 : Nat) : Int)) = false
  · rw [if_pos h]
    have hu0 : u = false := by rw [hu, decide_eq_false (by omega), h.2]; rfl
    refine ev_neg (by rw [hu0]; simp) ?_
    obtain ⟨y, y1, y2, y3⟩ := key l hbl (Nat.le_refl _)
    rw [y1]
    refine Ev.bind (Ev.now _) ?_
    rw [y2, y3]
    exact Ev.now _
  · rw [if_neg h]
    have hu1 : u = true := by
      rw [hu]
      by_cases hbe' : e = b
      · rw [decide_eq_true hbe']; rfl
      · have : blankI (bt t ((e - 1 : Nat) : Int)) = true := by
          cases hb : blankI (bt t ((e - 1 : Nat) : Int)) with
          | true => rfl
          | false => exact absurd ⟨by omega, hb⟩ h
        rw [this, Bool.or_true]
    refine ev_pos hu1 ?_
    have hz := size_ext t b e (by omega)
    obtain ⟨f1, f2, f3, f4⟩ := back_prop (q := fun i => blankI (bt t (i : Int))) (e - b) b
    have hsh : b + back (fun i => blankI (bt (t.extract b e) (i : Int))) (e - b) 0 = back (fun i => blankI (bt t (i : Int))) (e - b) (b + 0) :=
      back_shift fun k k1 k2 => by rw [bt_ext t b e k (by omega) (by omega)]
    rw [Nat.add_zero] at hsh
    have hr := trimR_val (t.extract b e) ⟨#[32, 9]⟩ _ tells_blank set_blank (by omega)
    rw [hz, ext_ext t b e 0 _ (by omega) (by omega), hsh, Nat.add_zero] at hr
    rw [hv, hr]
    refine Ev.bind (Ev.now _) ?_
    obtain ⟨y, y1, y2, y3⟩ := key (back (fun i => blankI (bt t (i : Int))) (e - b) b) f1 (by omega)
    rw [y1]
    refine Ev.bind (Ev.now _) ?_
    rw [y2, y3]
    exact Ev.now _
theorem head_p_yes (t : ByteArray) (a n : Nat) (hs : t.size ≤ 4294967296) (han : a + n ≤ t.size) :
    Ev (fun k => mdmark_Head.j0 k (a : Int) t (n : Int) false) (0, (n : Int), ((a + n : Nat) : Int), ((hFrom t (a + n) (hEnd t (a + n)) : Nat) : Int), ((hEnd t (a + n) : Nat) : Int), ((lastN t (a + n) : Nat) : Int), true) := by
  obtain ⟨l1, l2, l3, l4⟩ := lastN_prop t (a + n) han
  obtain ⟨e1, e2, e3, e4⟩ := back_prop (q := fun i => bt t (i : Int) == 35) (lastN t (a + n) - (a + n)) (a + n)
  have ew : wrap64 ((a : Int) + (n : Int)) = ((a + n : Nat) : Int) := by rw [w64 (by omega) (by omega)]; omega
  refine Ev.step (fun k => by rw [mdmark_Head.j0]) ?_
  refine ev_neg (by simp) ?_
  rw [ew, last_p t (a + n) han hs]
  refine Ev.bind (Ev.now _) (ev_pos (by omega) (ev_pos (by omega) (ev_pos (by omega) ?_)))
  rw [Int.toNat_natCast, Int.toNat_natCast]
  have hz := size_ext t (a + n) (lastN t (a + n)) l2
  have hsh : (a + n) + back (fun i => bt (t.extract (a + n) (lastN t (a + n))) (i : Int) == 35) (lastN t (a + n) - (a + n)) 0 = back (fun i => bt t (i : Int) == 35) (lastN t (a + n) - (a + n)) ((a + n) + 0) :=
    back_shift fun k k1 k2 => by rw [bt_ext t (a + n) _ k (by omega) (by omega)]
  rw [Nat.add_zero] at hsh
  have hr := trimR_val (t.extract (a + n) (lastN t (a + n))) ⟨#[35]⟩ _ tells_hash set_hash (by omega)
  rw [hz, ext_ext t (a + n) (lastN t (a + n)) 0 _ (by omega) (by omega), hsh, Nat.add_zero] at hr
  rw [hr]
  refine Ev.bind (Ev.now _) ?_
  have hzz := size_ext t (a + n) (back (fun i => bt t (i : Int) == 35) (lastN t (a + n) - (a + n)) (a + n)) (by omega)
  have tail := fun (u : Bool) hu => head_p_tail t t (a + n) (lastN t (a + n)) (back (fun i => bt t (i : Int) == 35) (lastN t (a + n) - (a + n)) (a + n)) n l1 l2 hs (by omega) e1 _ rfl u hu l4
  have hE : hEnd t (a + n) = (if a + n < back (fun i => bt t (i : Int) == 35) (lastN t (a + n) - (a + n)) (a + n) ∧ blankI (bt t ((back (fun i => bt t (i : Int) == 35) (lastN t (a + n) - (a + n)) (a + n) - 1 : Nat) : Int)) = false then lastN t (a + n) else back (fun i => blankI (bt t (i : Int))) (back (fun i => bt t (i : Int) == 35) (lastN t (a + n) - (a + n)) (a + n) - (a + n)) (a + n)) := rfl
  rw [hE]
  by_cases h0 : back (fun i => bt t (i : Int) == 35) (lastN t (a + n) - (a + n)) (a + n) = a + n
  · refine ev_pos (by rw [isEmpty_iff, hzz]; omega) (tail true ?_)
    rw [decide_eq_true h0]; rfl
  · refine ev_neg (by rw [isEmpty_iff, hzz]; omega) ?_
    rw [hzz, w64 (by omega) (by omega), show ((back (fun i => bt t (i : Int) == 35) (lastN t (a + n) - (a + n)) (a + n) - (a + n) : Nat) : Int) - 1 = ((back (fun i => bt t (i : Int) == 35) (lastN t (a + n) - (a + n)) (a + n) - (a + n) - 1 : Nat) : Int) by omega,
      parted_p _ _ (by rw [hzz]; omega), hzz, decide_eq_false (by omega), Bool.false_or, bt_ext t _ _ _ (by omega) (by omega), show a + n + (back (fun i => bt t (i : Int) == 35) (lastN t (a + n) - (a + n)) (a + n) - (a + n) - 1) = back (fun i => bt t (i : Int) == 35) (lastN t (a + n) - (a + n)) (a + n) - 1 by omega]
    refine Ev.bind (Ev.now _) (tail _ ?_)
    rw [decide_eq_false h0, Bool.false_or]
theorem head_p (s : ByteArray) (x : Int) (hs : s.size ≤ 4294967296) : Ev (fun k => mdmark_Head.f k s x) (headS (hd s) x) := by
  have hle := endN_le s
  have hz := hd_size s
  unfold mdmark_Head.f
  rw [ahead_val s x (by omega)]
  generalize hd s = t at hz ⊢
  refine Ev.bind (Ev.now _) ?_
  dsimp only
  unfold headS
  by_cases h : 0 ≤ x ∧ x < (t.size : Int)
  · obtain ⟨a, rfl⟩ := Int.eq_ofNat_of_zero_le h.1
    have ha : a < t.size := by omega
    simp only [Int.toNat_natCast]
    rw [decide_eq_true h]
    refine ev_pos rfl ?_
    rw [row_hash_val t a (by omega) (by omega)]
    refine Ev.bind (Ev.now _) ?_
    obtain ⟨p1, p2, p3, p4⟩ := behN_prop t a ha
    by_cases h35 : bt t (a : Int) = 35
    · have hfar : far (fun i => bt t (i : Int) == 35) (t.size - a) a = behN t a := by unfold behN; rw [h35]
      rw [hfar]
      refine ev_neg (by omega) ?_
      by_cases h6 : behN t a - a ≤ 6
      · refine ev_neg (by omega) ?_
        rw [w64 (by omega) (by omega), ← Int.natCast_add, show a + (behN t a - a) = behN t a by omega, parted_p t _ p2]
        refine Ev.bind (Ev.now _) ?_
        cases hp : (decide (t.size ≤ behN t a) || blankI (bt t ((behN t a : Nat) : Int))) with
        | true =>
          rw [if_pos ⟨h.1, h.2, h35, h6, rfl⟩]
          have := head_p_yes t a (behN t a - a) (by omega) (by omega)
          rw [show a + (behN t a - a) = behN t a by omega] at this
          exact this
        | false =>
          rw [if_neg (fun h' => by simp at h')]
          refine Ev.step (fun k => by rw [mdmark_Head.j0]) ?_
          exact ev_pos rfl (Ev.now _)
      · rw [if_neg (fun h' => h6 h'.2.2.2.1)]
        exact ev_pos (by omega) (Ev.step (fun k => by rw [mdmark_Head.j0]) (ev_pos rfl (Ev.now _)))
    · rw [if_neg (fun h' => h35 h'.2.2.1)]
      have hfar : far (fun i => bt t (i : Int) == 35) (t.size - a) a = a := far_eq (Nat.le_refl _) (by omega) (fun k h1 h2 => by omega) (fun _ => by simpa using h35)
      rw [hfar]
      exact ev_pos (by omega) (Ev.step (fun k => by rw [mdmark_Head.j0]) (ev_pos rfl (Ev.now _)))
  · rw [if_neg (fun h' => h ⟨h'.1, h'.2.1⟩), decide_eq_false h]
    exact ev_neg (by simp) (Ev.now _)

end Go.Proofs.YtgeddemohcbojaaDoor.Pure
