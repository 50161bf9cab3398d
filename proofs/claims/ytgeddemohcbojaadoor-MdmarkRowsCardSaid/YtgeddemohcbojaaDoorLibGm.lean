/- Texts joined: LibDp, LibEp, LibG. No conditions but those that each theorem names. -/
import Derived.Test.YtgeddemohcbojaaDoorLibB
import Derived.Test.YtgeddemohcbojaaDoorHandW
import Derived.Test.YtgeddemohcbojaaDoorHandX
namespace Go.Proofs.YtgeddemohcbojaaDoor.Pure
open Go.RowKit Go.Proofs.YtgeddemohcbojaaDoor.P Go.Proofs.YtgeddemohcbojaaDoorW.PrintWords Go.Proofs.YtgeddemohcbojaaDoorW.PrintLast
set_option linter.unusedVariables false
set_option linter.unusedSimpArgs false

def isUnder (t : ByteArray) (x : Int) : Bool := bt t x == 61 || bt t x == 45
def underS (t : ByteArray) (x : Int) : Int × Int × Int × Int × Int × Int × Bool :=
  if 0 ≤ x ∧ x < (t.size : Int) ∧ (bt t x = 61 ∨ bt t x = 45) ∧ lastN t (behN t x.toNat) = behN t x.toNat then
    (bt t x, ((behN t x.toNat - x.toNat : Nat) : Int), 0, 0, 0, ((behN t x.toNat : Nat) : Int), true)
  else (0, 0, 0, 0, 0, 0, false)
theorem far_beh (t : ByteArray) (a : Nat) : P.far (isB (bt t (a : Int))) t a = behN t a := by
  rw [row_at t (isB (bt t (a : Int))) (fun i => bt t (i : Int) == bt t (a : Int)) a (fun i => rfl)]; rfl
/-- The last place from a on is that from a row's end on, if what stands behind the row is no blank's row begun within it. -/
theorem last_beh (t : ByteArray) (a : Nat) (ha : a < t.size) (hb : blankI (bt t (a : Int)) = false) : lastN t a = lastN t (behN t a) := by
  obtain ⟨p1, p2, p3, p4⟩ := behN_prop t a ha
  obtain ⟨l1, l2, l3, l4⟩ := lastN_prop t (behN t a) p2
  refine back_eq (by omega) (by omega) (fun k h1 h2 => l3 k h1 (by omega)) (fun h => ?_)
  by_cases e : behN t a < lastN t (behN t a)
  · exact l4 e
  · have e2 : lastN t (behN t a) = behN t a := by omega
    rw [e2, p3 _ (by omega) (by omega)]
    exact hb
theorem under_p (s : ByteArray) (x : Int) (hs : s.size ≤ 4294967296) : mdmark_Under.f s x = some (underS (hd s) x) := by
  have hle := endN_le s
  have hz := hd_size s
  unfold mdmark_Under.f underS
  rw [ahead_val s x (by omega), Option.bind_some]
  generalize hd s = t at hz ⊢
  dsimp only
  by_cases h : 0 ≤ x ∧ x < (t.size : Int)
  · obtain ⟨a, rfl⟩ := Int.eq_ofNat_of_zero_le h.1
    have ha : a < t.size := by omega
    rw [decide_eq_true h, if_pos rfl, if_pos ⟨h.1, h.2, by omega⟩]
    simp only [Int.toNat_natCast]
    by_cases hc : bt t (a : Int) = 61 ∨ bt t (a : Int) = 45
    · rw [if_pos hc, last_p t a (by omega) (by omega), Option.bind_some, far_beh]
      have hbl : blankI (bt t (a : Int)) = false := by rcases hc with e | e <;> rw [e] <;> rfl
      rw [last_beh t a ha hbl]
      by_cases he : lastN t (behN t a) = behN t a
      · rw [if_pos (by omega), if_pos ⟨h.1, h.2, hc, he⟩]
      · rw [if_neg (by omega), if_neg (fun h' => he h'.2.2.2)]; rfl
    · rw [if_neg hc, if_neg (fun h' => hc h'.2.2.1)]; rfl
  · rw [decide_eq_false h, if_neg (by simp), if_neg (fun h' => h ⟨h'.1, h'.2.1⟩)]; rfl
/-! ### fences -/
/-- Where a grave accent stands behind a place. -/
def tick (t : ByteArray) (b : Nat) : Option Nat := fst (fun i => bt t (i : Int) == 96) (t.size - b) b
def fenceS (t : ByteArray) (x : Int) : Int × Int × Int × Int × Int × Int × Bool :=
  if 0 ≤ x ∧ x < (t.size : Int) ∧ (bt t x = 96 ∨ bt t x = 126) ∧ 3 ≤ behN t x.toNat - x.toNat ∧ (bt t x = 96 → tick t (behN t x.toNat) = none) then
    (bt t x, ((behN t x.toNat - x.toNat : Nat) : Int), ((behN t x.toNat : Nat) : Int), 0, 0, ((lastN t (behN t x.toNat) : Nat) : Int), true)
  else (0, 0, 0, 0, 0, 0, false)
theorem tick_p (t : ByteArray) (b : Nat) (hb : b ≤ t.size) : 0 ≤ Lib.indexByte (t.extract b t.size).data.toList 96 ↔ tick t b ≠ none := by
  have hz := size_ext t b t.size (Nat.le_refl _)
  rcases index_cases (t.extract b t.size) 96 with h | ⟨o, h⟩
  · rw [h]
    refine ⟨fun h' => by omega, fun h' => absurd (fst_no fun k h1 h2 => ?_) h'⟩
    have := index_none h (k - b) (by omega)
    rw [bt_ext t b t.size (k - b) (Nat.le_refl _) (by omega), show b + (k - b) = k by omega] at this
    simpa using this
  · rw [h]
    refine ⟨fun _ hn => ?_, fun _ => by omega⟩
    obtain ⟨h1, h2, h3⟩ := index_some h
    rw [bt_ext t b t.size o (Nat.le_refl _) (by omega)] at h2
    have := fst_none hn (b + o) (by omega) (by omega)
    simp at this
    exact this h2
theorem fence_p (s : ByteArray) (x : Int) (hs : s.size ≤ 4294967296) : mdmark_Fence.f s x = some (fenceS (hd s) x) := by
  have hle := endN_le s
  have hz := hd_size s
  unfold mdmark_Fence.f fenceS
  rw [ahead_val s x (by omega), Option.bind_some]
  generalize hd s = t at hz ⊢
  dsimp only
  by_cases h : 0 ≤ x ∧ x < (t.size : Int)
  · obtain ⟨a, rfl⟩ := Int.eq_ofNat_of_zero_le h.1
    have ha : a < t.size := by omega
    obtain ⟨p1, p2, p3, p4⟩ := behN_prop t a ha
    rw [decide_eq_true h, if_pos rfl, if_pos ⟨h.1, h.2, by omega⟩]
    simp only [Int.toNat_natCast]
    by_cases hc : bt t (a : Int) = 96 ∨ bt t (a : Int) = 126
    · rw [if_pos hc, far_beh]
      by_cases hn : behN t a - a < 3
      · rw [if_pos hn, if_neg (fun h' => by omega)]; rfl
      · rw [if_neg hn]
        by_cases ht : bt t (a : Int) = 96 ∧ 0 ≤ Lib.indexByte (t.extract (behN t a) t.size).data.toList 96
        · rw [if_pos ht, if_neg (fun h' => (tick_p t _ p2).1 ht.2 (h'.2.2.2.2 ht.1))]; rfl
        · rw [if_neg ht, last_p t _ p2 (by omega), Option.bind_some, if_pos ⟨h.1, h.2, hc, by omega, fun e => Classical.byContradiction fun h' => ht ⟨e, (tick_p t _ p2).2 h'⟩⟩]
    · rw [if_neg hc, if_neg (fun h' => hc h'.2.2.1)]; rfl
  · rw [decide_eq_false h, if_neg (by simp), if_neg (fun h' => h ⟨h'.1, h'.2.1⟩)]; rfl
end Go.Proofs.YtgeddemohcbojaaDoor.Pure
namespace Go.Proofs.YtgeddemohcbojaaDoor.Pure
open Go.RowKit Go.Proofs.YtgeddemohcbojaaDoor.P Go.Proofs.YtgeddemohcbojaaDoorW.PrintWords Go.Proofs.YtgeddemohcbojaaDoorW.PrintLast
set_option linter.unusedVariables false
set_option linter.unusedSimpArgs false

/-- What a count tells. -/
def ruleFin (t : ByteArray) (a : Nat) : Option Nat → Int × Int × Int × Int × Int × Int × Bool
  | none => (0, 0, 0, 0, 0, 0, false)
  | some n => if n < 3 then (0, 0, 0, 0, 0, 0, false) else (bt t (a : Int), (n : Int), 0, 0, 0, ((lastN t a : Nat) : Int), true)
def ruleS (t : ByteArray) (x : Int) : Int × Int × Int × Int × Int × Int × Bool :=
  if 0 ≤ x ∧ x < (t.size : Int) ∧ (bt t x = 42 ∨ bt t x = 45 ∨ bt t x = 95) then ruleFin t x.toNat (ruleGo t (bt t x) (t.size - x.toNat) x.toNat 0) else (0, 0, 0, 0, 0, 0, false)
theorem ruleGo_shift (t : ByteArray) (c : Int) (a b : Nat) (hb : b ≤ t.size) : ∀ (m k n : Nat), k + m ≤ b - a → ruleGo (t.extract a b) c m k n = ruleGo t c m (a + k) n
  | 0, k, n, h => rfl
  | m + 1, k, n, h => by
    unfold ruleGo
    rw [bt_ext t a b k hb (by omega), ruleGo_shift t c a b hb m (k + 1) (n + 1) (by omega), ruleGo_shift t c a b hb m (k + 1) n (by omega)]
    rfl
theorem ruleGo_blank (t : ByteArray) (c : Int) (hc : blankI c = false) : ∀ (m k n : Nat), (∀ j : Nat, k ≤ j → j < k + m → blankI (bt t (j : Int)) = true) → ruleGo t c m k n = some n
  | 0, k, n, h => rfl
  | m + 1, k, n, h => by
    unfold ruleGo
    have hk := h k (Nat.le_refl _) (by omega)
    rw [if_neg (fun e => by rw [e, hc] at hk; cases hk), if_pos (by simpa [blankI] using hk)]
    exact ruleGo_blank t c hc m (k + 1) n fun j h1 h2 => h j (by omega) (by omega)
theorem ruleGo_cut (t : ByteArray) (c : Int) (hc : blankI c = false) (d : Nat) : ∀ (m k n : Nat), (∀ j : Nat, k + m ≤ j → j < k + m + d → blankI (bt t (j : Int)) = true) → ruleGo t c (m + d) k n = ruleGo t c m k n
  | 0, k, n, h => by rw [Nat.zero_add]; exact (ruleGo_blank t c hc d k n fun j h1 h2 => h j (by omega) (by omega)).trans rfl
  | m + 1, k, n, h => by
    rw [show m + 1 + d = (m + d) + 1 by omega]
    unfold ruleGo
    rw [ruleGo_cut t c hc d m (k + 1) (n + 1) fun j h1 h2 => h j (by omega) (by omega), ruleGo_cut t c hc d m (k + 1) n fun j h1 h2 => h j (by omega) (by omega)]
theorem rule_p (s : ByteArray) (x : Int) (hs : s.size ≤ 4294967296) : mdmark_Rule.f s x = some (ruleS (hd s) x) := by
  have hle := endN_le s
  have hz := hd_size s
  unfold mdmark_Rule.f ruleS
  rw [ahead_val s x (by omega), Option.bind_some]
  generalize hd s = t at hz ⊢
  dsimp only
  by_cases h : 0 ≤ x ∧ x < (t.size : Int)
  · obtain ⟨a, rfl⟩ := Int.eq_ofNat_of_zero_le h.1
    have ha : a < t.size := by omega
    obtain ⟨l1, l2, l3, l4⟩ := lastN_prop t a (by omega)
    rw [decide_eq_true h, if_pos rfl, if_pos ⟨h.1, h.2, by omega⟩]
    simp only [Int.toNat_natCast]
    by_cases hc : bt t (a : Int) = 42 ∨ bt t (a : Int) = 45 ∨ bt t (a : Int) = 95
    · have hbl : blankI (bt t (a : Int)) = false := by rcases hc with e | e | e <;> rw [e] <;> rfl
      rw [if_pos ((idx3 42 45 95 _ (bt_pos t _)).2 hc), last_p t a (by omega) (by omega), Option.bind_some, if_pos ⟨by omega, by omega⟩, if_pos ⟨h.1, h.2, hc⟩, Int.toNat_natCast,
        ruleGo_shift t _ a (lastN t a) l2 _ 0 0 (by omega), Nat.add_zero]
      have e := ruleGo_cut t (bt t (a : Int)) hbl (t.size - lastN t a) (lastN t a - a) a 0 fun j h1 h2 => l3 j (by omega) (by omega)
      rw [show lastN t a - a + (t.size - lastN t a) = t.size - a by omega] at e
      rw [e]
      cases ruleGo t (bt t (a : Int)) (lastN t a - a) a 0 with
      | none => rfl
      | some n => rfl
    · rw [if_neg (fun h' => hc ((idx3 42 45 95 _ (bt_pos t _)).1 h')), if_neg (fun h' => hc h'.2.2)]; rfl
  · rw [decide_eq_false h, if_neg (by simp), if_neg (fun h' => h ⟨h'.1, h'.2.1⟩)]; rfl
end Go.Proofs.YtgeddemohcbojaaDoor.Pure
namespace Go.Proofs.YtgeddemohcbojaaDoor.Pure
open Go.RowKit Go.Proofs.YtgeddemohcbojaaDoor.P Go.Proofs.YtgeddemohcbojaaDoorW.PrintWords Go.Proofs.YtgeddemohcbojaaDoorW.PrintLast
set_option linter.unusedVariables false
set_option linter.unusedSimpArgs false

/-- So many times a byte. -/
def rp (c : UInt8) (n : Nat) : ByteArray := ⟨(List.replicate n c).toArray⟩
theorem rp_size (c : UInt8) (n : Nat) : (rp c n).size = n := by rw [← len_eq]; simp [rp]
theorem rp_zero (c : UInt8) : rp c 0 = ⟨#[]⟩ := rfl
theorem rp_succ (c : UInt8) (n : Nat) : rp c n ++ ⟨#[c]⟩ = rp c (n + 1) := by
  apply ext_list
  simp [rp, List.replicate_succ']
theorem rp_bt (c : UInt8) (n i : Nat) (h : i < n) : bt (rp c n) (i : Int) = c.toNat := by
  rw [bt_list _ i (by rw [len_eq, rp_size]; exact h)]
  simp [rp]
/-- A row of n bytes c, z blanks behind. -/
def rowL (c : UInt8) (n z : Nat) : ByteArray := rp c n ++ rp 32 z
theorem rowL_zero (c : UInt8) (n : Nat) : rowL c n 0 = rp c n := by apply ext_list; simp [rowL, rp]
theorem rowL_succ (c : UInt8) (n z : Nat) : rowL c n z ++ ⟨#[32]⟩ = rowL c n (z + 1) := by
  unfold rowL
  rw [ByteArray.append_assoc, rp_succ]
theorem rowL_size (c : UInt8) (n z : Nat) : (rowL c n z).size = n + z := by unfold rowL; rw [ByteArray.size_append, rp_size, rp_size]
theorem rowL_bt1 (c : UInt8) (n z i : Nat) (h : i < n) : bt (rowL c n z) (i : Int) = c.toNat := by
  unfold rowL
  rw [bt_app1 _ _ i (by rw [rp_size]; exact h), rp_bt c n i h]
theorem rowL_bt2 (c : UInt8) (n z i : Nat) (h : n ≤ i) (h2 : i < n + z) : bt (rowL c n z) (i : Int) = 32 := by
  unfold rowL
  have := bt_app2 (rp c n) (rp 32 z) (i - n) (by rw [rp_size]; omega)
  rw [rp_size, show n + (i - n) = i by omega, rp_bt 32 z _ (by omega)] at this
  exact this
variable (c : UInt8) (n z : Nat)
theorem hd_row (hc : c ≠ 10) : hd (rowL c n z) = rowL c n z := by
  have : endN (rowL c n z) = (rowL c n z).size := endN_none fun i hi => by
    rw [rowL_size] at hi
    by_cases h : i < n
    · rw [rowL_bt1 c n z i h]
      intro e
      exact hc (UInt8.toNat_inj.1 (show c.toNat = 10 by omega))
    · rw [rowL_bt2 c n z i (by omega) hi]; decide
  unfold hd
  rw [this, ext_all]
theorem hd_row_lf (hc : c ≠ 10) (hc2 : c ≠ 13) (hn : 0 < n) : hd (rowL c n z ++ ⟨#[10]⟩) = rowL c n z := by
  have hs : (rowL c n z ++ (⟨#[10]⟩ : ByteArray)).size = n + z + 1 := by rw [ByteArray.size_append, rowL_size]; rfl
  have hb : ∀ i : Nat, i < n + z → bt (rowL c n z ++ (⟨#[10]⟩ : ByteArray)) (i : Int) = bt (rowL c n z) (i : Int) := fun i hi => bt_app1 _ _ i (by rw [rowL_size]; exact hi)
  have hl : bt (rowL c n z ++ (⟨#[10]⟩ : ByteArray)) ((n + z : Nat) : Int) = 10 := by
    have := bt_app2 (rowL c n z) ⟨#[10]⟩ 0 (by decide)
    rw [rowL_size, Nat.add_zero] at this
    exact this
  have hno : ∀ i : Nat, i < n + z → bt (rowL c n z) (i : Int) ≠ 10 ∧ bt (rowL c n z) (i : Int) ≠ 13 := by
    intro i hi
    by_cases h : i < n
    · rw [rowL_bt1 c n z i h]
      exact ⟨fun e => hc (UInt8.toNat_inj.1 (show c.toNat = 10 by omega)), fun e => hc2 (UInt8.toNat_inj.1 (show c.toNat = 13 by omega))⟩
    · rw [rowL_bt2 c n z i (by omega) hi]; decide
  have hf : fst (fun i => bt (rowL c n z ++ (⟨#[10]⟩ : ByteArray)) (i : Int) == 10) (rowL c n z ++ (⟨#[10]⟩ : ByteArray)).size 0 = some (n + z) := by
    refine fst_eq (Nat.zero_le _) (by omega) (by simpa using hl) fun k _ hk => ?_
    rw [hb k hk]
    simpa using (hno k hk).1
  have he : endN (rowL c n z ++ (⟨#[10]⟩ : ByteArray)) = n + z := by
    unfold endN
    rw [hf]
    dsimp only
    rw [if_neg (fun h => by rw [hb (n + z - 1) (by omega)] at h; exact (hno _ (by omega)).2 h.2)]
  unfold hd
  rw [he]
  apply ext_list
  rw [extract_list, List.drop_zero, Nat.sub_zero]
  simp only [ByteArray.data_append, Array.toList_append]
  rw [List.take_append_of_le_length (by rw [len_eq, rowL_size]; exact Nat.le_refl _), List.take_of_length_le (by rw [len_eq, rowL_size]; exact Nat.le_refl _)]
theorem last_row (hb : blankI (c.toNat : Int) = false) (hn : 0 < n) : lastN (rowL c n z) 0 = n ∧ lastN (rowL c n z) n = n := by
  constructor
  · refine back_eq (by omega) (by rw [rowL_size]; omega) (fun k h1 h2 => ?_) (fun _ => ?_)
    · rw [rowL_size] at h2
      rw [rowL_bt2 c n z k h1 (by omega)]; rfl
    · rw [rowL_bt1 c n z (n - 1) (by omega)]; exact hb
  · refine back_eq (Nat.le_refl _) (by rw [rowL_size]; omega) (fun k h1 h2 => ?_) (fun h => absurd h (Nat.lt_irrefl _))
    rw [rowL_size] at h2
    rw [rowL_bt2 c n z k h1 (by omega)]; rfl
theorem beh_row (hb : blankI (c.toNat : Int) = false) (hn : 0 < n) : behN (rowL c n z) 0 = n := by
  have h0 : bt (rowL c n z) ((0 : Nat) : Int) = c.toNat := rowL_bt1 c n z 0 hn
  refine far_eq (by omega) (by rw [rowL_size]; omega) (fun k h1 h2 => ?_) (fun h => ?_)
  · rw [h0, rowL_bt1 c n z k h2]; simp
  · rw [rowL_size] at h
    rw [h0, rowL_bt2 c n z n (Nat.le_refl _) (by omega)]
    simp only [beq_eq_false_iff_ne]
    intro e
    rw [← e] at hb; cases hb
theorem count_row (hb : blankI (c.toNat : Int) = false) : ∀ (m k j : Nat), k + m = n → ruleGo (rowL c n z) (c.toNat : Int) (m + z) k j = some (j + m)
  | 0, k, j, h => by
    rw [Nat.zero_add]
    exact ruleGo_blank _ _ hb z k j fun i h1 h2 => by rw [rowL_bt2 c n z i (by omega) (by omega)]; rfl
  | m + 1, k, j, h => by
    rw [show m + 1 + z = (m + z) + 1 by omega]
    unfold ruleGo
    rw [if_pos (rowL_bt1 c n z k (by omega)), count_row hb m (k + 1) (j + 1) (by omega)]
    congr 1
    omega
theorem rule_row (hb : blankI (c.toNat : Int) = false) (hc : c ≠ 10) (hn : 0 < n) (hs : n + z ≤ 1000) :
    mdmark_Rule.f (rowL c n z) 0 = some (if (c = 42 ∨ c = 45 ∨ c = 95) ∧ 3 ≤ n then ((c.toNat : Int), (n : Int), 0, 0, 0, (n : Int), true) else (0, 0, 0, 0, 0, 0, false)) := by
  rw [rule_p _ _ (by rw [rowL_size]; omega), hd_row c n z hc]
  have h0 : bt (rowL c n z) 0 = c.toNat := rowL_bt1 c n z 0 hn
  unfold ruleS
  rw [h0, rowL_size]
  have e : ((c.toNat : Int) = 42 ∨ (c.toNat : Int) = 45 ∨ (c.toNat : Int) = 95) ↔ (c = 42 ∨ c = 45 ∨ c = 95) := by
    have k : ∀ u : UInt8, (c.toNat : Int) = (u.toNat : Int) ↔ c = u := fun u => ⟨fun h => UInt8.toNat_inj.1 (by omega), fun h => by rw [h]⟩
    rw [← k 42, ← k 45, ← k 95]; rfl
  by_cases h : c = 42 ∨ c = 45 ∨ c = 95
  · rw [if_pos ⟨by omega, by omega, e.2 h⟩]
    have := count_row c n z hb n 0 0 (by omega)
    rw [show (0 : Int).toNat = 0 from rfl, Nat.sub_zero, this, Nat.zero_add]
    unfold ruleFin
    dsimp only
    rw [(last_row c n z hb hn).1, show bt (rowL c n z) ((0 : Nat) : Int) = c.toNat from h0]
    by_cases h3 : 3 ≤ n
    · rw [if_neg (by omega), if_pos ⟨h, h3⟩]
    · rw [if_pos (by omega), if_neg (fun h' => h3 h'.2)]
  · rw [if_neg (fun h' => h (e.1 h'.2.2)), if_neg (fun h' => h h'.1)]
theorem under_row (hb : blankI (c.toNat : Int) = false) (hc : c ≠ 10) (hn : 0 < n) (hs : n + z ≤ 1000) :
    mdmark_Under.f (rowL c n z) 0 = some (if c = 61 ∨ c = 45 then ((c.toNat : Int), (n : Int), 0, 0, 0, (n : Int), true) else (0, 0, 0, 0, 0, 0, false)) := by
  rw [under_p _ _ (by rw [rowL_size]; omega), hd_row c n z hc]
  have h0 : bt (rowL c n z) 0 = c.toNat := rowL_bt1 c n z 0 hn
  unfold underS
  rw [h0, rowL_size, show (0 : Int).toNat = 0 from rfl, beh_row c n z hb hn, (last_row c n z hb hn).2, Nat.sub_zero]
  have e : ((c.toNat : Int) = 61 ∨ (c.toNat : Int) = 45) ↔ (c = 61 ∨ c = 45) := by
    have k : ∀ u : UInt8, (c.toNat : Int) = (u.toNat : Int) ↔ c = u := fun u => ⟨fun h => UInt8.toNat_inj.1 (by omega), fun h => by rw [h]⟩
    rw [← k 61, ← k 45]; rfl
  by_cases h : c = 61 ∨ c = 45
  · rw [if_pos ⟨by omega, by omega, e.2 h, rfl⟩, if_pos h]
  · rw [if_neg (fun h' => h (e.1 h'.2.2.1)), if_neg h]
theorem tick_row (h96 : c = 96) (hn : 0 < n) : tick (rowL c n z) n = none :=
  fst_no fun k h1 h2 => by
    rw [rowL_size] at h2
    rw [rowL_bt2 c n z k h1 (by omega)]; rfl
theorem fence_row (hb : blankI (c.toNat : Int) = false) (hc : c ≠ 10) (hc2 : c ≠ 13) (hn : 0 < n) (hs : n + z ≤ 1000) :
    mdmark_Fence.f (rowL c n z ++ ⟨#[10]⟩) 0 = some (if (c = 96 ∨ c = 126) ∧ 3 ≤ n then ((c.toNat : Int), (n : Int), (n : Int), 0, 0, (n : Int), true) else (0, 0, 0, 0, 0, 0, false)) := by
  rw [fence_p _ _ (by rw [ByteArray.size_append, rowL_size]; show n + z + 1 ≤ _; omega), hd_row_lf c n z hc hc2 hn]
  have h0 : bt (rowL c n z) 0 = c.toNat := rowL_bt1 c n z 0 hn
  unfold fenceS
  rw [h0, rowL_size, show (0 : Int).toNat = 0 from rfl, beh_row c n z hb hn, (last_row c n z hb hn).2, Nat.sub_zero]
  have e : ((c.toNat : Int) = 96 ∨ (c.toNat : Int) = 126) ↔ (c = 96 ∨ c = 126) := by
    have k : ∀ u : UInt8, (c.toNat : Int) = (u.toNat : Int) ↔ c = u := fun u => ⟨fun h => UInt8.toNat_inj.1 (by omega), fun h => by rw [h]⟩
    rw [← k 96, ← k 126]; rfl
  by_cases h : (c = 96 ∨ c = 126) ∧ 3 ≤ n
  · rw [if_pos ⟨by omega, by omega, e.2 h.1, h.2, fun h96 => tick_row c n z (UInt8.toNat_inj.1 (show c.toNat = 96 by omega)) hn⟩, if_pos h]
  · rw [if_neg (fun h' => h ⟨e.1 h'.2.2.1, h'.2.2.2.1⟩), if_neg h]
end Go.Proofs.YtgeddemohcbojaaDoor.Pure
