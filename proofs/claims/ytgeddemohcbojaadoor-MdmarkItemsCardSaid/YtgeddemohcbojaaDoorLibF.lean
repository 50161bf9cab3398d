/- Plain lemmas: an item's mark, as the document tells it, is the program's; the law on items. Conditions: texts of at most 2^32 bytes. -/
import Derived.Test.YtgeddemohcbojaaDoorLibFp
import Derived.Test.YtgeddemohcbojaaDoorLibCs
import Derived.Test.YtgeddemohcbojaaDoorQ27
import Derived.Test.YtgeddemohcbojaaDoorQ28
namespace Go.Proofs.YtgeddemohcbojaaDoor.Pure
open Go.RowKit Go.Proofs.YtgeddemohcbojaaDoor.P Go.Proofs.YtgeddemohcbojaaDoorW.PrintWords Go.Proofs.YtgeddemohcbojaaDoorW.PrintLast
set_option linter.unusedVariables false
set_option linter.unusedSimpArgs false

section
variable (s : ByteArray) (hs : s.size ≤ 4294967296)
include hs
theorem tail_r (ch cnt : Int) (q : Nat) (hq : q ≤ (hd s).size) : Ev (fun k => (indentureref18_parted.f k s (q : Int)).bind fun t => if t = true then ((indentureref18_Last.f k s (q : Int)).bind fun l => (some (ch, cnt, (q : Int), 0, 0, l, true))) else (some (0, 0, 0, 0, 0, 0, false))) (tailS (hd s) ch cnt q) := by
  refine Ev.bind (parted_r s hs q hq) ?_
  unfold tailS
  by_cases h : (decide ((hd s).size ≤ q) || blankI (bt (hd s) (q : Int))) = true
  · rw [if_pos h]
    exact ev_pos h (Ev.bind (last_r s hs q hq) (Ev.now _))
  · rw [if_neg h]
    exact ev_neg h (Ev.now _)
/-- Behind the digits. -/
def itemEnd (t : ByteArray) (a q : Nat) (n : Int) : Int × Int × Int × Int × Int × Int × Bool :=
  if q < t.size ∧ ((a < q ∧ (bt t (q : Int) = 46 ∨ bt t (q : Int) = 41)) ∨ (q = a ∧ (bt t (q : Int) = 45 ∨ bt t (q : Int) = 43 ∨ bt t (q : Int) = 42))) then tailS t (bt t (q : Int)) n (q + 1) else (0, 0, 0, 0, 0, 0, false)
theorem item_j1 (a q : Nat) (n : Int) (haq : a ≤ q) (hq : q ≤ (hd s).size) : Ev (fun k => indentureref18_Item.j1 k s (a : Int) (q : Int) n) (itemEnd (hd s) a q n) := by
  have hle := endN_le s
  have hz := hd_size s
  refine Ev.step (fun k => by rw [indentureref18_Item.j1]) ?_
  refine Ev.bind (end_val s (by omega)) ?_
  unfold itemEnd
  by_cases h : q < (hd s).size
  rotate_left
  · rw [if_neg (fun h' => h h'.1)]
    exact ev_pos (by omega) (Ev.now _)
  refine ev_neg (by omega) ?_
  have hr := tail_r s hs (bt (hd s) (q : Int)) n (q + 1) (by omega)
  have ew : wrap64 ((q : Int) + 1) = ((q + 1 : Nat) : Int) := by rw [w64 (by omega) (by omega)]; omega
  rw [← hd_bt s q (by omega), ew]
  generalize bt (hd s) (q : Int) = c at hr ⊢
  refine ev_pos (by omega) (ev_pos (by omega) ?_)
  by_cases hgt : a < q
  · by_cases c46 : c = 46
    · rw [if_pos ⟨h, .inl ⟨hgt, .inl c46⟩⟩]
      repeat (first | refine ev_pos (by omega) ?_ | refine ev_neg (by omega) ?_)
      exact hr
    · by_cases c41 : c = 41
      · rw [if_pos ⟨h, .inl ⟨hgt, .inr c41⟩⟩]
        repeat (first | refine ev_pos (by omega) ?_ | refine ev_neg (by omega) ?_)
        exact hr
      · rw [if_neg (fun h' => by omega)]
        repeat (first | refine ev_pos (by omega) ?_ | refine ev_neg (by omega) ?_)
        exact Ev.now _
  · have hqa : q = a := by omega
    by_cases c45 : c = 45
    · rw [if_pos ⟨h, .inr ⟨hqa, .inl c45⟩⟩]
      repeat (first | refine ev_pos (by omega) ?_ | refine ev_neg (by omega) ?_)
      exact hr
    · by_cases c43 : c = 43
      · rw [if_pos ⟨h, .inr ⟨hqa, .inr (.inl c43)⟩⟩]
        repeat (first | refine ev_pos (by omega) ?_ | refine ev_neg (by omega) ?_)
        exact hr
      · by_cases c42 : c = 42
        · rw [if_pos ⟨h, .inr ⟨hqa, .inr (.inr c42)⟩⟩]
          repeat (first | refine ev_pos (by omega) ?_ | refine ev_neg (by omega) ?_)
          exact hr
        · rw [if_neg (fun h' => by omega)]
          repeat (first | refine ev_pos (by omega) ?_ | refine ev_neg (by omega) ?_)
          exact Ev.now _
theorem item_loop (a : Nat) (ha : a < (hd s).size) : ∀ (m j : Nat) (v : Int), a ≤ j → j + m = min (a + digN (hd s) a) (a + 9) → 0 ≤ v → v < ((10 ^ (j - a) : Nat) : Int) →
    Ev (fun k => indentureref18_Item.l0 k s (a : Int) (j : Int) v) (itemEnd (hd s) a (min (a + digN (hd s) a) (a + 9)) (itemGo (hd s) m j v))
  | 0, j, v, haj, hj, v0, v1 => by
    have hle := endN_le s
    have hz := hd_size s
    obtain ⟨d1, d2, d3⟩ := digN_prop (hd s) a (by omega)
    have hr := item_j1 s hs a j v haj (by omega)
    refine Ev.step (fun k => by rw [indentureref18_Item.l0]) ?_
    refine Ev.bind (end_val s (by omega)) ?_
    rw [← hj, Nat.add_zero]
    unfold itemGo
    rw [w64 (x := (j : Int) - (a : Int)) (by omega) (by omega)]
    by_cases hjs : j < endN s
    · refine ev_pos (by omega) ?_
      by_cases h9 : j - a < 9
      · refine ev_pos (by omega) (ev_pos (by omega) (ev_pos (by omega) ?_))
        have hnd := d3 (by omega)
        rw [show a + digN (hd s) a = j by omega] at hnd
        rw [← hd_bt s j (by omega)]
        unfold isDigit at hnd
        by_cases h48 : 48 ≤ bt (hd s) (j : Int)
        · refine ev_pos h48 (ev_neg (fun h57 => ?_) hr)
          rw [decide_eq_true h48, decide_eq_true h57] at hnd; cases hnd
        · exact ev_neg h48 hr
      · exact ev_neg (by omega) hr
    · exact ev_neg (by omega) hr
  | m + 1, j, v, haj, hj, v0, v1 => by
    have hle := endN_le s
    have hz := hd_size s
    obtain ⟨d1, d2, d3⟩ := digN_prop (hd s) a (by omega)
    have hdg := d2 j haj (by omega)
    simp only [isDigit, Bool.and_eq_true, decide_eq_true_eq] at hdg
    have hp : (10 ^ (j - a) : Nat) ≤ 10 ^ 8 := Nat.pow_le_pow_right (by omega) (by omega)
    have h8 : (10 ^ 8 : Nat) = 100000000 := by decide
    refine Ev.step (fun k => by rw [indentureref18_Item.l0]) ?_
    refine Ev.bind (end_val s (by omega)) ?_
    rw [w64 (x := (j : Int) - (a : Int)) (by omega) (by omega), ← hd_bt s j (by omega), w64 (x := (j : Int) + 1) (by omega) (by omega), w64 (x := 10 * v) (by omega) (by omega), show (bt (hd s) (j : Int) - 48) % 256 = bt (hd s) (j : Int) - 48 by omega, w64 (by omega) (by omega), show (j : Int) + 1 = ((j + 1 : Nat) : Int) by omega]
    refine ev_pos (by omega) (ev_pos (by omega) (ev_pos (by omega) (ev_pos (by omega) (ev_pos (by omega) (ev_pos (by omega) ?_)))))
    unfold itemGo
    refine item_loop a ha m (j + 1) _ (by omega) (by omega) (by omega) ?_
    rw [show j + 1 - a = (j - a) + 1 by omega, Nat.pow_succ]
    omega
theorem item_r (x : Int) : Ev (fun k => indentureref18_Item.f k s x) (itemS (hd s) x) := by
  have hle := endN_le s
  have hz := hd_size s
  unfold indentureref18_Item.f itemS
  refine Ev.bind (outside_r s hs x) ?_
  by_cases h : 0 ≤ x ∧ x < ((hd s).size : Int)
  · obtain ⟨a, rfl⟩ := Int.eq_ofNat_of_zero_le h.1
    have ha : a < (hd s).size := by omega
    simp only [Int.toNat_natCast]
    rw [decide_eq_true h, if_pos h]
    refine ev_neg (by simp) ?_
    obtain ⟨d1, d2, d3⟩ := digN_prop (hd s) a (by omega)
    have hl := item_loop s hs a ha (min (a + digN (hd s) a) (a + 9) - a) a 0 (Nat.le_refl _) (by omega) (by omega) (by rw [Nat.sub_self]; decide)
    have dig0 : ∀ c : Int, isDigit c = true → c ≠ 45 ∧ c ≠ 43 ∧ c ≠ 42 ∧ c ≠ 46 ∧ c ≠ 41 := by
      intro c hc
      simp only [isDigit, Bool.and_eq_true, decide_eq_true_eq] at hc
      omega
    by_cases hc : bt (hd s) (a : Int) = 45 ∨ bt (hd s) (a : Int) = 43 ∨ bt (hd s) (a : Int) = 42
    · rw [if_pos hc]
      have hd0 : digN (hd s) a = 0 := by
        by_cases e : digN (hd s) a = 0
        · exact e
        · have := dig0 _ (d2 a (Nat.le_refl _) (by omega)); omega
      rw [hd0, Nat.add_zero, show min a (a + 9) = a by omega, Nat.sub_self] at hl
      unfold itemEnd itemGo at hl
      rw [if_pos ⟨ha, .inr ⟨rfl, hc⟩⟩] at hl
      exact hl
    · rw [if_neg hc]
      by_cases hb : digN (hd s) a < 1 ∨ 9 < digN (hd s) a ∨ a + digN (hd s) a = (hd s).size ∨ (bt (hd s) ((a + digN (hd s) a : Nat) : Int) ≠ 46 ∧ bt (hd s) ((a + digN (hd s) a : Nat) : Int) ≠ 41)
      · rw [if_pos hb]
        have hno : ∀ n, itemEnd (hd s) a (min (a + digN (hd s) a) (a + 9)) n = (0, 0, 0, 0, 0, 0, false) := by
          intro n
          unfold itemEnd
          rw [if_neg]
          rintro ⟨q1, q2⟩
          by_cases h9 : digN (hd s) a ≤ 9
          · rw [show min (a + digN (hd s) a) (a + 9) = a + digN (hd s) a by omega] at q1 q2
            rcases q2 with ⟨g1, g2⟩ | ⟨g1, g2⟩
            · rcases hb with hb | hb | hb | hb
              · omega
              · omega
              · omega
              · exact g2.elim hb.1 hb.2
            · rw [g1] at g2; exact hc g2
          · rw [show min (a + digN (hd s) a) (a + 9) = a + 9 by omega] at q1 q2
            have := dig0 _ (d2 (a + 9) (by omega) (by omega))
            omega
        rw [hno] at hl
        exact hl
      · rw [if_neg hb]
        have k0 : 1 ≤ digN (hd s) a ∧ digN (hd s) a ≤ 9 ∧ a + digN (hd s) a < (hd s).size ∧ (bt (hd s) ((a + digN (hd s) a : Nat) : Int) = 46 ∨ bt (hd s) ((a + digN (hd s) a : Nat) : Int) = 41) := by omega
        rw [show min (a + digN (hd s) a) (a + 9) = a + digN (hd s) a by omega, show a + digN (hd s) a - a = digN (hd s) a by omega] at hl
        unfold itemEnd at hl
        rw [if_pos ⟨k0.2.2.1, .inl ⟨by omega, k0.2.2.2⟩⟩] at hl
        exact hl
  · rw [decide_eq_false h, if_neg h]
    exact ev_pos rfl (Ev.now _)
end
theorem MdmarkItems : indenturelaw18_MdmarkItems.Pure := by
  intro s x hs hx
  refine Ev.rounds ?_
  unfold indenturelaw18_MdmarkItems.f
  by_cases hb : (s.size : Int) > 3000
  · exact ev_pos hb (Ev.now _)
  rw [item_p s x (by omega), item_p ⟨#[49, 50, 41, 32, 98]⟩ 0 (by decide), show itemS (hd ⟨#[49, 50, 41, 32, 98]⟩) 0 = (41, 12, 3, 0, 0, 5, true) by kernel_rfl]
  refine ev_neg hb (Ev.bind (Ev.now _) (Ev.bind (item_r s (by omega) x) (Ev.bind (Ev.now _) ?_)))
  rw [same_val]
  exact Ev.bind (Ev.now _) (ev_pos rfl (ev_pos rfl (ev_pos rfl reads_end)))
end Go.Proofs.YtgeddemohcbojaaDoor.Pure
