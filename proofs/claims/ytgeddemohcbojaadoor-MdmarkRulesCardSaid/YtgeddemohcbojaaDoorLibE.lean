/- Plain lemmas: a break, as the program and the document tell it, is one and the same; the law on breaks. Conditions: texts of at most 2^32 bytes. -/
import Derived.Test.YtgeddemohcbojaaDoorLibC
import Derived.Test.YtgeddemohcbojaaDoorPx9
namespace Go.Proofs.YtgeddemohcbojaaDoor.Pure
open Go.RowKit Go.Proofs.YtgeddemohcbojaaDoor.P Go.Proofs.YtgeddemohcbojaaDoorW.PrintWords Go.Proofs.YtgeddemohcbojaaDoorW.PrintLast
set_option linter.unusedVariables false
set_option linter.unusedSimpArgs false

theorem idx3 (x y z : UInt8) (b : Int) (h : 0 ≤ b ∧ b ≤ 255) : 0 ≤ Lib.indexByte [x, y, z] b.toNat.toUInt8 ↔ (b = x.toNat ∨ b = y.toNat ∨ b = z.toNat) := by
  have key : ∀ u : UInt8, (u == b.toNat.toUInt8) = decide (b = u.toNat) := by
    intro u
    by_cases e : b = u.toNat
    · rw [decide_eq_true e]
      have : b.toNat.toUInt8 = u := by
        apply UInt8.toNat_inj.1
        have hu := u.toNat_lt
        simp; omega
      rw [this]; simp
    · rw [decide_eq_false e]
      have : ¬ u = b.toNat.toUInt8 := fun e' => e (by
        have := congrArg UInt8.toNat e'
        simp at this; omega)
      simpa using this
  unfold Lib.indexByte Lib.indexByte Lib.indexByte Lib.indexByte
  rw [key, key, key]
  by_cases h1 : b = x.toNat
  · simp [h1]
  · by_cases h2 : b = y.toNat
    · simp [h1, h2]; (repeat' split) <;> omega
    · by_cases h3 : b = z.toNat
      · simp [h1, h2, h3]; (repeat' split) <;> omega
      · simp [h1, h2, h3]
/-- What a count tells. -/
def ruleFin (t : ByteArray) (a : Nat) : Option Nat → Int × Int × Int × Int × Int × Int × Bool
  | none => (0, 0, 0, 0, 0, 0, false)
  | some n => if n < 3 then (0, 0, 0, 0, 0, 0, false) else (bt t (a : Int), (n : Int), 0, 0, 0, ((lastN t a : Nat) : Int), true)
def ruleS (t : ByteArray) (x : Int) : Int × Int × Int × Int × Int × Int × Bool :=
  if 0 ≤ x ∧ x < (t.size : Int) ∧ (bt t x = 42 ∨ bt t x = 45 ∨ bt t x = 95) then ruleFin t x.toNat (ruleGo t (bt t x) (t.size - x.toNat) x.toNat 0) else (0, 0, 0, 0, 0, 0, false)
theorem ruleGo_shift (t : ByteArray) (c : Int) (a b : Nat) (hb : b ≤ t.size) : ∀ (m k n : Nat), k + m ≤ b - a → ruleGo (t.extract a b) c m k n = ruleGo t c m (a + k) n
  | 0, k, n, h => rfl
  | m + 1, k, n, h => by
    unfold ruleGo
    rw [bt_ext t a b k hb (by omega), ruleGo_shift t c a b hb m (k + 1) (n + 1) (by omega), ruleGo_shift t c a b hb m (k + 1) n (by omega)]
    rfl
theorem ruleGo_blank (t : ByteArray) (c : Int) (hc : blankI c = false) : ∀ (m k n : Nat), (∀ j : Nat, k ≤ j → j < k + m → blankI (bt t (j : Int)) = true) → ruleGo t c m k n = some n
  | 0, k, n, h => rfl
  | m + 1, k, n, h => by
    unfold ruleGo
    have hk := h k (Nat.le_refl _) (by omega)
    rw [if_neg (fun e => by rw [e, hc] at hk; cases hk), if_pos (by simpa [blankI] using hk)]
    exact ruleGo_blank t c hc m (k + 1) n fun j h1 h2 => h j (by omega) (by omega)
theorem ruleGo_cut (t : ByteArray) (c : Int) (hc : blankI c = false) (d : Nat) : ∀ (m k n : Nat), (∀ j : Nat, k + m ≤ j → j < k + m + d → blankI (bt t (j : Int)) = true) → ruleGo t c (m + d) k n = ruleGo t c m k n
  | 0, k, n, h => by rw [Nat.zero_add]; exact (ruleGo_blank t c hc d k n fun j h1 h2 => h j (by omega) (by omega)).trans rfl
  | m + 1, k, n, h => by
    rw [show m + 1 + d = (m + d) + 1 by omega]
    unfold ruleGo
    rw [ruleGo_cut t c hc d m (k + 1) (n + 1) fun j h1 h2 => h j (by omega) (by omega), ruleGo_cut t c hc d m (k + 1) n fun j h1 h2 => h j (by omega) (by omega)]
theorem rule_p (s : ByteArray) (x : Int) (hs : s.size ≤ 4294967296) : mdmark_Rule.f s x = some (ruleS (hd s) x) := by
  have hle := endN_le s
  have hz := hd_size s
  unfold mdmark_Rule.f ruleS
  rw [ahead_val s x (by omega), Option.bind_some]
  generalize hd s = t at hz ⊢
  dsimp only
  by_cases h : 0 ≤ x ∧ x < (t.size : Int)
  · obtain ⟨a, rfl⟩ := Int.eq_ofNat_of_zero_le h.1
    have ha : a < t.size := by omega
    obtain ⟨l1, l2, l3, l4⟩ := lastN_prop t a (by omega)
    rw [decide_eq_true h, if_pos rfl, if_pos ⟨h.1, h.2, by omega⟩]
    simp only [Int.toNat_natCast]
    by_cases hc : bt t (a : Int) = 42 ∨ bt t (a : Int) = 45 ∨ bt t (a : Int) = 95
    · have hbl : blankI (bt t (a : Int)) = false := by rcases hc with e | e | e <;> rw [e] <;> rfl
      rw [if_pos ((idx3 42 45 95 _ (bt_pos t _)).2 hc), last_p t a (by omega) (by omega), Option.bind_some, if_pos ⟨by omega, by omega⟩, if_pos ⟨h.1, h.2, hc⟩, Int.toNat_natCast,
        ruleGo_shift t _ a (lastN t a) l2 _ 0 0 (by omega), Nat.add_zero]
      have e := ruleGo_cut t (bt t (a : Int)) hbl (t.size - lastN t a) (lastN t a - a) a 0 fun j h1 h2 => l3 j (by omega) (by omega)
      rw [show lastN t a - a + (t.size - lastN t a) = t.size - a by omega] at e
      rw [e]
      cases ruleGo t (bt t (a : Int)) (lastN t a - a) a 0 with
      | none => rfl
      | some n => rfl
    · rw [if_neg (fun h' => hc ((idx3 42 45 95 _ (bt_pos t _)).1 h')), if_neg (fun h' => hc h'.2.2)]; rfl
  · rw [decide_eq_false h, if_neg (by simp), if_neg (fun h' => h ⟨h'.1, h'.2.1⟩)]; rfl
section
variable (s : ByteArray) (hs : s.size ≤ 4294967296)
include hs
theorem rule_loop (a : Nat) (ha : a < (hd s).size) : ∀ (m j n : Nat), j + m = (hd s).size → n ≤ j →
    Ev (fun k => indentureref18_Rule.l0 k s (a : Int) (n : Int) (j : Int)) (ruleFin (hd s) a (ruleGo (hd s) (bt (hd s) (a : Int)) m j n))
  | 0, j, n, hj, hn => by
    have hle := endN_le s
    have hz := hd_size s
    refine Ev.step (fun k => by rw [indentureref18_Rule.l0]) ?_
    refine Ev.bind (end_val s (by omega)) (ev_neg (by omega) ?_)
    unfold ruleGo ruleFin
    dsimp only
    by_cases h3 : n < 3
    · rw [if_pos h3]
      exact ev_pos (by omega) (Ev.now _)
    · rw [if_neg h3]
      refine ev_neg (by omega) (ev_pos (by omega) (ev_pos (by omega) (Ev.bind (last_r s hs a (by omega)) ?_)))
      rw [← hd_bt s a (by omega)]
      exact Ev.now _
  | m + 1, j, n, hj, hn => by
    have hle := endN_le s
    have hz := hd_size s
    refine Ev.step (fun k => by rw [indentureref18_Rule.l0]) ?_
    refine Ev.bind (end_val s (by omega)) (ev_pos (by omega) (ev_pos (by omega) (ev_pos (by omega) (ev_pos (by omega) (ev_pos (by omega) ?_)))))
    rw [← hd_bt s a (by omega), ← hd_bt s j (by omega), w64 (x := (j : Int) + 1) (by omega) (by omega), w64 (x := (n : Int) + 1) (by omega) (by omega), show (j : Int) + 1 = ((j + 1 : Nat) : Int) by omega, show (n : Int) + 1 = ((n + 1 : Nat) : Int) by omega, blank_r]
    unfold ruleGo
    by_cases he : bt (hd s) (j : Int) = bt (hd s) (a : Int)
    · rw [if_pos he]
      exact ev_pos he (rule_loop a ha m (j + 1) (n + 1) (by omega) (by omega))
    · rw [if_neg he]
      refine ev_neg he (Ev.bind (Ev.now _) ?_)
      by_cases hb : blankI (bt (hd s) (j : Int)) = true
      · rw [if_pos (by simpa [blankI] using hb)]
        exact ev_pos hb (rule_loop a ha m (j + 1) n (by omega) (by omega))
      · rw [if_neg (by simpa [blankI] using hb)]
        exact ev_neg hb (Ev.now _)
theorem rule_r (x : Int) : Ev (fun k => indentureref18_Rule.f k s x) (ruleS (hd s) x) := by
  have hle := endN_le s
  have hz := hd_size s
  unfold indentureref18_Rule.f ruleS
  refine Ev.bind (outside_r s hs x) ?_
  by_cases h : 0 ≤ x ∧ x < ((hd s).size : Int)
  · obtain ⟨a, rfl⟩ := Int.eq_ofNat_of_zero_le h.1
    have ha : a < (hd s).size := by omega
    simp only [Int.toNat_natCast]
    rw [decide_eq_true h]
    refine ev_neg (by simp) (ev_pos (by omega) (ev_pos (by omega) ?_))
    rw [← hd_bt s a (by omega)]
    have yes : bt (hd s) (a : Int) = 42 ∨ bt (hd s) (a : Int) = 45 ∨ bt (hd s) (a : Int) = 95 → Ev (fun k => indentureref18_Rule.j0 k s (a : Int) false) (if 0 ≤ (a : Int) ∧ (a : Int) < ((hd s).size : Int) ∧ (bt (hd s) (a : Int) = 42 ∨ bt (hd s) (a : Int) = 45 ∨ bt (hd s) (a : Int) = 95) then ruleFin (hd s) a (ruleGo (hd s) (bt (hd s) (a : Int)) ((hd s).size - a) a 0) else (0, 0, 0, 0, 0, 0, false)) := by
      intro hc
      refine Ev.step (fun k => by rw [indentureref18_Rule.j0]) ?_
      refine ev_neg (by simp) ?_
      rw [if_pos ⟨h.1, h.2, hc⟩]
      exact rule_loop s hs a ha ((hd s).size - a) a 0 (by omega) (by omega)
    by_cases h42 : bt (hd s) (a : Int) = 42
    · exact ev_pos h42 (yes (.inl h42))
    refine ev_neg h42 ?_
    by_cases h45 : bt (hd s) (a : Int) = 45
    · exact ev_pos h45 (yes (.inr (.inl h45)))
    refine ev_neg h45 ?_
    by_cases h95 : bt (hd s) (a : Int) = 95
    · have e : (bt (hd s) (a : Int) != 95) = false := by rw [h95]; rfl
      rw [e]
      exact yes (.inr (.inr h95))
    · have e : (bt (hd s) (a : Int) != 95) = true := by simpa using h95
      rw [e, if_neg (fun h' => h'.2.2.elim h42 fun h' => h'.elim h45 h95)]
      exact Ev.step (fun k => by rw [indentureref18_Rule.j0]) (ev_pos rfl (Ev.now _))
  · rw [if_neg (fun h' => h ⟨h'.1, h'.2.1⟩), decide_eq_false h]
    exact ev_pos rfl (Ev.step (fun k => by rw [indentureref18_Rule.j0]) (ev_pos rfl (Ev.now _)))
end
theorem MdmarkRules : indenturelaw18_MdmarkRules.Pure := by
  intro s x hs hx
  refine Ev.rounds ?_
  unfold indenturelaw18_MdmarkRules.f
  by_cases hb : (s.size : Int) > 3000
  · exact ev_pos hb (Ev.now _)
  rw [rule_p s x (by omega), rule_p ⟨#[42, 32, 42, 32, 42]⟩ 0 (by decide), show ruleS (hd ⟨#[42, 32, 42, 32, 42]⟩) 0 = (42, 3, 0, 0, 0, 5, true) by kernel_rfl]
  refine ev_neg hb (Ev.bind (Ev.now _) (Ev.bind (rule_r s (by omega) x) (Ev.bind (Ev.now _) ?_)))
  rw [same_val]
  exact Ev.bind (Ev.now _) (ev_pos rfl (ev_pos rfl (ev_pos rfl reads_end)))
end Go.Proofs.YtgeddemohcbojaaDoor.Pure
