/- The plain law MdcodeWhole: code between rows of accents is one span. -/
import Derived.Test.YtodgioleaegpfaaDoorLibWs
import Derived.Test.YtodgioleaegpfaaDoorQ22
namespace Go.Proofs.YtodgioleaegpfaaDoor.Pure
open Go.RowKit Go.Proofs.YtodgioleaegpfaaDoor.P Go.Proofs.YtodgioleaegpfaaDoorW.PrintWords Go.Proofs.YtodgioleaegpfaaDoorW.PrintLast Go.Proofs.YtodgioleaegpfaaDoorW.PrintMore
set_option linter.unusedVariables false
set_option linter.unusedSimpArgs false
/-- The longest row of accents: rows anywhere, rows at the end. -/
structure Run (L : List Int) (most row : Nat) : Prop where
  any : ∀ i t : Nat, i ≤ t → t ≤ L.length → (∀ k, i ≤ k → k < t → L[k]? = some 96) → t - i ≤ most
  last : ∀ i : Nat, i ≤ L.length → (∀ k, i ≤ k → k < L.length → L[k]? = some 96) → L.length - i ≤ row
theorem Run.tick {L : List Int} {most row : Nat} (h : Run L most row) : Run (L ++ [96]) (max most (row + 1)) (row + 1) := by
  have old : ∀ i t : Nat, t ≤ L.length → (∀ k, i ≤ k → k < t → (L ++ [96])[k]? = some 96) → ∀ k, i ≤ k → k < t → L[k]? = some 96 := fun i t ht hk k h1 h2 => by
    have := hk k h1 h2
    rwa [List.getElem?_append_left (by omega)] at this
  have lst : ∀ i : Nat, i ≤ L.length + 1 → (∀ k, i ≤ k → k < L.length + 1 → (L ++ [96])[k]? = some 96) → L.length + 1 - i ≤ row + 1 := fun i hi hk => by
    by_cases e : i = L.length + 1
    · omega
    · have := h.last i (by omega) (old i L.length (Nat.le_refl _) (fun k h1 h2 => hk k h1 (by omega)))
      omega
  refine ⟨fun i t h1 h2 hk => ?_, fun i hi hk => ?_⟩
  · rw [List.length_append, List.length_singleton] at h2
    by_cases e : t = L.length + 1
    · subst e
      have := lst i h1 hk
      omega
    · have := h.any i t h1 (by omega) (old i t (by omega) hk)
      omega
  · rw [List.length_append, List.length_singleton] at hi hk ⊢
    exact lst i hi hk
theorem Run.other {L : List Int} {most row : Nat} (h : Run L most row) {c : Int} (hc : c ≠ 96) : Run (L ++ [c]) most 0 := by
  refine ⟨fun i t h1 h2 hk => ?_, fun i hi hk => ?_⟩
  · rw [List.length_append, List.length_singleton] at h2
    by_cases e : t = L.length + 1
    · by_cases e2 : i = t
      · omega
      · have := hk L.length (by omega) (by omega)
        rw [List.getElem?_append_right (Nat.le_refl _), Nat.sub_self] at this
        exact absurd (by simpa using this) hc
    · refine h.any i t h1 (by omega) fun k h3 h4 => ?_
      have := hk k h3 h4
      rwa [List.getElem?_append_left (by omega)] at this
  · rw [List.length_append, List.length_singleton] at hi hk ⊢
    by_cases e2 : i = L.length + 1
    · omega
    · have := hk L.length (by omega) (by omega)
      rw [List.getElem?_append_right (Nat.le_refl _), Nat.sub_self] at this
      exact absurd (by simpa using this) hc
/-- A row that closes is found behind shorter ones. -/
theorem cdN_found (s : ByteArray) (n j : Nat) (hn : 1 ≤ n) (hj : j + n < s.size) (hrow : ∀ k : Nat, j ≤ k → k < j + n → bt s (k : Int) = 96) (hend : bt s ((j + n : Nat) : Int) ≠ 96) (lo : Nat) (hpre : 1 ≤ j ∧ bt s ((j - 1 : Nat) : Int) ≠ 96)
    (hshort : ∀ i t : Nat, lo ≤ i → i ≤ t → t < j → (∀ k : Nat, i ≤ k → k < t → bt s (k : Int) = 96) → t - i < n) : ∀ (m i : Nat), lo ≤ i → i ≤ j → j + 1 ≤ i + m → cdN s n m i = j + n
  | 0, i, h1, h2, h3 => by omega
  | m + 1, i, h1, h2, h3 => by
    obtain ⟨t1, t2, t3, t4⟩ := tk_prop s i (by omega)
    unfold cdN
    rw [if_pos (by omega)]
    by_cases hij : i = j
    · subst hij
      have : tk s i = i + n := by
        rcases Nat.lt_trichotomy (tk s i) (i + n) with h | h | h
        · exact absurd (hrow _ t1 h) (t4 (by omega))
        · exact h
        · exact absurd (t3 (i + n) (by omega) h) hend
      rw [if_pos (by omega)]
    · have ht : tk s i < j := by
        by_cases hc : tk s i < j
        · exact hc
        · exact absurd (t3 (j - 1) (by omega) (by omega)) hpre.2
      have hs := hshort i (tk s i) h1 t1 ht t3
      rw [if_neg (by omega)]
      exact cdN_found s n j hn hj hrow hend lo hpre hshort m _ (by omega) (by omega) (by omega)
/-- What the law lays out, told by places: a bytes of text, n accents, a blank, b bytes of code, a blank, n accents, 'x', LF. -/
structure Laid (T : ByteArray) (a n b : Nat) : Prop where
  size : T.size = a + n + 1 + b + 1 + n + 2
  text : ∀ k : Nat, k < a → bt T (k : Int) ≠ 10 ∧ bt T (k : Int) ≠ 13 ∧ bt T (k : Int) ≠ 96 ∧ bt T (k : Int) ≠ 92 ∧ bt T (k : Int) ≠ 60 ∧ bt T (k : Int) ≠ 38
  open_ : ∀ k : Nat, a ≤ k → k < a + n → bt T (k : Int) = 96
  blank : bt T ((a + n : Nat) : Int) = 32
  code : ∀ k : Nat, a + n + 1 ≤ k → k < a + n + 1 + b → bt T (k : Int) ≠ 10 ∧ bt T (k : Int) ≠ 13
  short : ∀ i t : Nat, a + n + 1 ≤ i → i ≤ t → t ≤ a + n + 1 + b → (∀ k : Nat, i ≤ k → k < t → bt T (k : Int) = 96) → t - i < n
  blank2 : bt T ((a + n + 1 + b : Nat) : Int) = 32
  shut : ∀ k : Nat, a + n + 1 + b + 1 ≤ k → k < a + n + 1 + b + 1 + n → bt T (k : Int) = 96
  x : bt T ((a + n + 1 + b + 1 + n : Nat) : Int) = 120
  lf : bt T ((a + n + 1 + b + 1 + n + 1 : Nat) : Int) = 10
theorem Laid.endN {T : ByteArray} {a n b : Nat} (h : Laid T a n b) : endN T = a + n + 1 + b + 1 + n + 1 := by
  have hno : ∀ k : Nat, k < a + n + 1 + b + 1 + n + 1 → bt T (k : Int) ≠ 10 := fun k hk e => by
    by_cases c1 : k < a
    · exact (h.text k c1).1 e
    by_cases c2 : k < a + n
    · rw [h.open_ k (by omega) c2] at e; omega
    by_cases c3 : k = a + n
    · rw [c3, h.blank] at e; omega
    by_cases c4 : k < a + n + 1 + b
    · exact (h.code k (by omega) c4).1 e
    by_cases c5 : k = a + n + 1 + b
    · rw [c5, h.blank2] at e; omega
    by_cases c6 : k < a + n + 1 + b + 1 + n
    · rw [h.shut k (by omega) c6] at e; omega
    · rw [show k = a + n + 1 + b + 1 + n by omega, h.x] at e; omega
  have hz := h.size
  have hf : fst (fun i => bt T (i : Int) == 10) T.size 0 = some (a + n + 1 + b + 1 + n + 1) := fst_eq (Nat.zero_le _) (by omega) (beq_iff_eq.2 h.lf) (fun k _ hk => beq_eq_false_iff_ne.2 (hno k hk))
  unfold Pure.endN
  rw [hf]
  dsimp only
  rw [if_neg]
  rintro ⟨-, e⟩
  rw [show a + n + 1 + b + 1 + n + 1 - 1 = a + n + 1 + b + 1 + n by omega, h.x] at e
  omega
theorem Laid.plain {T : ByteArray} {a n b : Nat} (h : Laid T a n b) (k : Nat) (hk : k < a ∨ k = a + n + 1 + b + 1 + n) (hT : T.size ≤ 9000) : rdS T (k : Int) 10000 = (0, ((k + 1 : Nat) : Int)) := by
  have hz := h.size
  have he := h.endN
  rw [rdS_in T k (a + n + 1 + b + 1 + n + 1) 10000 (by rw [he]; omega) (by omega)]
  have z := size_ext T k (a + n + 1 + b + 1 + n + 1) (by omega)
  have b0 : bt (T.extract k (a + n + 1 + b + 1 + n + 1)) 0 = bt T (k : Int) := by
    have := bt_ext T k (a + n + 1 + b + 1 + n + 1) 0 (by omega) (by omega)
    rwa [Nat.add_zero] at this
  have bl : bt (T.extract k (a + n + 1 + b + 1 + n + 1)) ((a + n + 1 + b + 1 + n - k : Nat) : Int) = 120 := by
    rw [bt_ext T k _ _ (by omega) (by omega), show k + (a + n + 1 + b + 1 + n - k) = a + n + 1 + b + 1 + n by omega, h.x]
  have hk2 : bt T (k : Int) ≠ 96 ∧ bt T (k : Int) ≠ 92 ∧ bt T (k : Int) ≠ 60 ∧ bt T (k : Int) ≠ 38 := by
    rcases hk with hk | rfl
    · exact (h.text k hk).2.2
    · rw [h.x]; decide
  have : rdN (T.extract k (a + n + 1 + b + 1 + n + 1)) (decide (a + n + 1 + b + 1 + n + 1 = Pure.endN T)) (lfB T) = (0, 1) := by
    by_cases c32 : bt T (k : Int) = 32
    · refine rdN_sp_no (b0.trans c32) fun hh => ?_
      have := hh.2.2.2 (a + n + 1 + b + 1 + n - k) (by omega)
      rw [bl] at this
      omega
    · exact rdN_other (by rw [b0]; exact hk2.2.1) (by rw [b0]; exact c32) (by rw [b0]; exact hk2.1) (by rw [b0]; exact hk2.2.2.1) (by rw [b0]; exact hk2.2.2.2)
  rw [this]; rfl
theorem Laid.span {T : ByteArray} {a n b : Nat} (h : Laid T a n b) (hn : 1 ≤ n) (hT : T.size ≤ 9000) : rdS T (a : Int) 10000 = (83, ((a + n + 1 + b + 1 + n : Nat) : Int)) := by
  have hz := h.size
  have he := h.endN
  rw [rdS_in T a (a + n + 1 + b + 1 + n + 1) 10000 (by rw [he]; omega) (by omega)]
  have z := size_ext T a (a + n + 1 + b + 1 + n + 1) (by omega)
  obtain ⟨s, hs⟩ : ∃ s, s = T.extract a (a + n + 1 + b + 1 + n + 1) := ⟨_, rfl⟩
  rw [← hs] at z ⊢
  have bs : ∀ k : Nat, k < n + 1 + b + 1 + n + 1 → bt s (k : Int) = bt T ((a + k : Nat) : Int) := fun k hk => by rw [hs, bt_ext T a _ k (by omega) (by omega)]
  have htk : tk s 0 = n := by
    obtain ⟨t1, t2, t3, t4⟩ := tk_prop s 0 (by omega)
    rcases Nat.lt_trichotomy (tk s 0) n with q | q | q
    · exact absurd (by rw [bs _ (by omega)]; exact h.open_ _ (by omega) (by omega)) (t4 (by omega))
    · exact q
    · have := t3 n (by omega) q
      rw [bs n (by omega), h.blank] at this
      omega
  have hcd : cdN s n s.size n = n + 1 + b + 1 + n := by
    refine cdN_found s n (n + 1 + b + 1) hn (by omega) (fun k h1 h2 => by rw [bs k (by omega)]; exact h.shut _ (by omega) (by omega)) (by rw [bs _ (by omega), show a + (n + 1 + b + 1 + n) = a + n + 1 + b + 1 + n by omega, h.x]; decide) n
      ⟨by omega, by rw [bs _ (by omega), show a + (n + 1 + b + 1 - 1) = a + n + 1 + b by omega, h.blank2]; decide⟩ (fun i t h1 h2 h3 hk => ?_) s.size n (Nat.le_refl _) (by omega) (by omega)
    by_cases hit : i = t
    · omega
    have hi : n + 1 ≤ i := by
      by_cases c : i = n
      · have := hk i (Nat.le_refl _) (by omega)
        rw [c, bs n (by omega), h.blank] at this
        omega
      · omega
    have ht : t ≤ n + 1 + b := by
      by_cases c : t ≤ n + 1 + b
      · exact c
      · have := hk (n + 1 + b) (by omega) (by omega)
        rw [bs _ (by omega), show a + (n + 1 + b) = a + n + 1 + b by omega, h.blank2] at this
        omega
    have := h.short (a + i) (a + t) (by omega) (by omega) (by omega) (fun k h4 h5 => by
      have := hk (k - a) (by omega) (by omega)
      rwa [bs _ (by omega), show a + (k - a) = k by omega] at this)
    omega
  have h96 : bt s 0 = 96 := by
    have := bs 0 (by omega)
    rw [Nat.add_zero] at this
    rw [show bt s 0 = bt s ((0 : Nat) : Int) from rfl, this]
    exact h.open_ a (Nat.le_refl _) (by omega)
  rw [rdN_tick_yes h96 (by rw [htk, hcd]; omega), htk, hcd]
  unfold at_
  dsimp only
  congr 2
  omega
theorem Laid.walk {T : ByteArray} {a n b : Nat} (h : Laid T a n b) (hT : T.size ≤ 9000) : ∀ (j x m : Nat), x + j = a → spL T 10000 (m + j) (x : Int) = spL T 10000 m (a : Int)
  | 0, x, m, hx => by rw [show x = a by omega, Nat.add_zero]
  | j + 1, x, m, hx => by
    have hz := h.size
    have he := h.endN
    have hp := h.plain x (.inl (by omega)) hT
    rw [← Nat.add_assoc, spL_no T 10000 (m + j) (x : Int) (by omega) (by rw [hp]), hp]
    exact Laid.walk h hT j (x + 1) m (by omega)
theorem Laid.spans {T : ByteArray} {a n b : Nat} (h : Laid T a n b) (hn : 1 ≤ n) (hT : T.size ≤ 9000) : spS T 0 10000 = [⟨3, 83, (a : Int), ((a + n + 1 + b + 1 + n : Nat) : Int)⟩] := by
  have hz := h.size
  have he := h.endN
  unfold spS
  have w := h.walk hT a 0 (n + 1 + b + 1 + n - 1 + 1 + 1) (by omega)
  rw [show Pure.endN T = n + 1 + b + 1 + n - 1 + 1 + 1 + a by omega]
  rw [show (0 : Int) = ((0 : Nat) : Int) from rfl, w]
  have hs := h.span hn hT
  have hp := h.plain (a + n + 1 + b + 1 + n) (.inr rfl) hT
  rw [spL_yes T 10000 _ (a : Int) (by omega) (by rw [hs]; exact (by decide : (83 : Int) ≠ 0)), hs]
  dsimp only
  rw [spL_no T 10000 _ _ (by omega) (by rw [hp]), hp]
  dsimp only
  rw [spL_out T 10000 _ _ (by omega)]
/-! ### the law's loops -/
def clA (c : Int) : Int := if c = 10 then 46 else if c = 13 then 46 else if c = 96 then 46 else if c = 92 then 46 else if c = 60 then 46 else if c = 38 then 46 else c
theorem clA_ok (c : Int) (h : 0 ≤ c ∧ c ≤ 255) : (0 ≤ clA c ∧ clA c ≤ 255) ∧ clA c ≠ 10 ∧ clA c ≠ 13 ∧ clA c ≠ 96 ∧ clA c ≠ 92 ∧ clA c ≠ 60 ∧ clA c ≠ 38 := by
  unfold clA
  repeat' split
  all_goals omega
def okA (L : List Int) : Prop := ∀ (k : Nat) (c : Int), L[k]? = some c → (0 ≤ c ∧ c ≤ 255) ∧ c ≠ 10 ∧ c ≠ 13 ∧ c ≠ 96 ∧ c ≠ 92 ∧ c ≠ 60 ∧ c ≠ 38
def okB (L : List Int) : Prop := ∀ (k : Nat) (c : Int), L[k]? = some c → (0 ≤ c ∧ c ≤ 255) ∧ c ≠ 10 ∧ c ≠ 13
theorem snoc_get {P : Int → Prop} {L : List Int} {c : Int} (h : ∀ (k : Nat) (x : Int), L[k]? = some x → P x) (hc : P c) : ∀ (k : Nat) (x : Int), (L ++ [c])[k]? = some x → P x := fun k x hx => by
  by_cases hk : k < L.length
  · rw [List.getElem?_append_left hk] at hx; exact h k x hx
  · rw [List.getElem?_append_right (by omega)] at hx
    by_cases e : k - L.length = 0
    · rw [e] at hx
      obtain rfl : c = x := by simpa using hx
      exact hc
    · rw [List.getElem?_eq_none (by simp; omega)] at hx; cases hx
theorem laid_of (A B : List Int) (n most row : Nat) (hA : okA A) (hB : okB B) (hr : Run B most row) (hn : most < n) :
    Laid ((((((strOfNums A ++ strOfNums (List.replicate n 96)) ++ (⟨#[32]⟩ : ByteArray)) ++ strOfNums B) ++ (⟨#[32]⟩ : ByteArray)) ++ strOfNums (List.replicate n 96)) ++ (⟨#[120, 10]⟩ : ByteArray)) A.length n B.length := by
  have e : ((((((strOfNums A ++ strOfNums (List.replicate n 96)) ++ (⟨#[32]⟩ : ByteArray)) ++ strOfNums B) ++ (⟨#[32]⟩ : ByteArray)) ++ strOfNums (List.replicate n 96)) ++ (⟨#[120, 10]⟩ : ByteArray)) = strOfNums (A ++ List.replicate n 96 ++ [32] ++ B ++ [32] ++ List.replicate n 96 ++ [120, 10]) := by
    rw [str_app, str_app, str_app, str_app, str_app, str_app]
    rfl
  rw [e]
  clear e
  obtain ⟨F, hF⟩ : ∃ F : List Int, F = List.replicate n 96 := ⟨_, rfl⟩
  have zF : F.length = n := by rw [hF, List.length_replicate]
  have gF : ∀ k : Nat, k < n → F[k]? = some 96 := fun k hk => by rw [hF, List.getElem?_replicate, if_pos hk]
  rw [← hF]
  clear hF
  have gA : ∀ k : Nat, k < A.length → (A ++ F ++ [32] ++ B ++ [32] ++ F ++ [120, 10])[k]? = A[k]? := fun k hk => by
    rw [List.getElem?_append_left (by simp; omega), List.getElem?_append_left (by simp; omega), List.getElem?_append_left (by simp; omega), List.getElem?_append_left (by simp; omega), List.getElem?_append_left (by simp; omega), List.getElem?_append_left hk]
  have gF1 : ∀ k : Nat, k < n → (A ++ F ++ [32] ++ B ++ [32] ++ F ++ [120, 10])[A.length + k]? = some 96 := fun k hk => by
    rw [List.getElem?_append_left (by simp; omega), List.getElem?_append_left (by simp; omega), List.getElem?_append_left (by simp; omega), List.getElem?_append_left (by simp; omega), List.getElem?_append_left (by simp; omega), List.getElem?_append_right (by omega), Nat.add_sub_cancel_left]
    exact gF k hk
  have g32 : (A ++ F ++ [32] ++ B ++ [32] ++ F ++ [120, 10])[A.length + n]? = some 32 := by
    rw [List.getElem?_append_left (by simp; omega), List.getElem?_append_left (by simp; omega), List.getElem?_append_left (by simp; omega), List.getElem?_append_left (by simp; omega), List.getElem?_append_right (by simp; omega)]
    simp [zF]
  have gB : ∀ k : Nat, k < B.length → (A ++ F ++ [32] ++ B ++ [32] ++ F ++ [120, 10])[A.length + n + 1 + k]? = B[k]? := fun k hk => by
    rw [List.getElem?_append_left (by simp; omega), List.getElem?_append_left (by simp; omega), List.getElem?_append_left (by simp; omega), List.getElem?_append_right (by simp; omega)]
    congr 1
    simp; omega
  have l1 : (A ++ F ++ [32] ++ B).length = A.length + n + 1 + B.length := by simp; omega
  have l2 : (A ++ F ++ [32] ++ B ++ [32]).length = A.length + n + 1 + B.length + 1 := by simp; omega
  have l3 : (A ++ F ++ [32] ++ B ++ [32] ++ F).length = A.length + n + 1 + B.length + 1 + n := by simp; omega
  have g32b : (A ++ F ++ [32] ++ B ++ [32] ++ F ++ [120, 10])[A.length + n + 1 + B.length]? = some 32 := by
    rw [List.getElem?_append_left (by simp; omega), List.getElem?_append_left (by simp; omega), List.getElem?_append_right (by omega), l1, Nat.sub_self]
    rfl
  have gF2 : ∀ k : Nat, k < n → (A ++ F ++ [32] ++ B ++ [32] ++ F ++ [120, 10])[A.length + n + 1 + B.length + 1 + k]? = some 96 := fun k hk => by
    rw [List.getElem?_append_left (by omega), List.getElem?_append_right (by omega), l2, Nat.add_sub_cancel_left]
    exact gF k hk
  have gx : (A ++ F ++ [32] ++ B ++ [32] ++ F ++ [120, 10])[A.length + n + 1 + B.length + 1 + n]? = some 120 := by
    rw [List.getElem?_append_right (by omega), l3, Nat.sub_self]
    rfl
  have glf : (A ++ F ++ [32] ++ B ++ [32] ++ F ++ [120, 10])[A.length + n + 1 + B.length + 1 + n + 1]? = some 10 := by
    rw [List.getElem?_append_right (by omega), l3, Nat.add_sub_cancel_left]
    rfl
  have zL : (A ++ F ++ [32] ++ B ++ [32] ++ F ++ [120, 10]).length = A.length + n + 1 + B.length + 1 + n + 2 := by simp; omega
  clear l1 l2 l3
  generalize A ++ F ++ [32] ++ B ++ [32] ++ F ++ [120, 10] = L at *
  have bB : ∀ k : Nat, k < B.length → ∃ c, B[k]? = some c ∧ bt (strOfNums L) ((A.length + n + 1 + k : Nat) : Int) = c := fun k hk => by
    have h := List.getElem?_eq_getElem hk
    exact ⟨_, h, bt_str L _ _ (hB k _ h).1 ((gB k hk).trans h)⟩
  refine ⟨by rw [strOfNums_size, zL], fun k hk => ?_, fun k h1 h2 => ?_, bt_str L _ 32 (by decide) g32, fun k h1 h2 => ?_, fun i t h1 h2 h3 hk => ?_, bt_str L _ 32 (by decide) g32b, fun k h1 h2 => ?_, bt_str L _ 120 (by decide) gx, bt_str L _ 10 (by decide) glf⟩
  · have h := List.getElem?_eq_getElem hk
    rw [bt_str L k _ (hA k _ h).1 ((gA k hk).trans h)]
    exact (hA k _ h).2
  · have := gF1 (k - A.length) (by omega)
    rw [show A.length + (k - A.length) = k by omega] at this
    exact bt_str L k 96 (by decide) this
  · obtain ⟨c, hc, hb⟩ := bB (k - (A.length + n + 1)) (by omega)
    rw [show A.length + n + 1 + (k - (A.length + n + 1)) = k by omega] at hb
    rw [hb]
    exact (hB _ c hc).2
  · have := hr.any (i - (A.length + n + 1)) (t - (A.length + n + 1)) (by omega) (by omega) (fun k h4 h5 => by
      obtain ⟨c, hc, hb⟩ := bB k (by omega)
      rw [hk _ (by omega) (by omega)] at hb
      rw [hc, ← hb])
    omega
  · have := gF2 (k - (A.length + n + 1 + B.length + 1)) (by omega)
    rw [show A.length + n + 1 + B.length + 1 + (k - (A.length + n + 1 + B.length + 1)) = k by omega] at this
    exact bt_str L k 96 (by decide) this
theorem whole_l2 (x2 : Int) (hx : 0 ≤ x2 ∧ x2 ≤ 255) (A B : List Int) (most row : Nat) (hA : okA A) (hB : okB B) (hr : Run B most row) (zA : A.length ≤ 200) (zB : B.length ≤ 500) (hm : most ≤ 500) :
    ∀ (m i : Nat), most + (x2.tmod 3).toNat + 1 ≤ i + m → i ≤ most + (x2.tmod 3).toNat + 1 → Ev (fun k => indenturelaw20_MdcodeWhole.l2 k x2 A (most : Int) B (List.replicate i (96 : Int)) (i : Int)) true := by
  have ht : (0 : Int) ≤ x2.tmod 3 ∧ x2.tmod 3 < 3 := by
    rw [Int.tmod_eq_emod_of_nonneg hx.1]
    omega
  have hw : wrap64 ((most : Int) + wrap64 (x2.tmod 3)) = ((most + (x2.tmod 3).toNat : Nat) : Int) := by
    rw [w64 (x := x2.tmod 3) (by omega) (by omega), w64 (by omega) (by omega)]; omega
  intro m
  induction m with
  | zero =>
    intro i h1 h2
    obtain rfl : i = most + (x2.tmod 3).toNat + 1 := by omega
    refine Ev.step (fun k => by rw [indenturelaw20_MdcodeWhole.l2]) ?_
    rw [hw]
    refine ev_neg (by omega) ?_
    obtain ⟨n, hn⟩ : ∃ n, n = most + (x2.tmod 3).toNat + 1 := ⟨_, rfl⟩
    rw [← hn]
    have s32 : (⟨#[32]⟩ : ByteArray).size = 1 := rfl
    have zF : (strOfNums (List.replicate n (96 : Int))).size = n := by rw [strOfNums_size, List.length_replicate]
    have zA' := strOfNums_size A
    have zB' := strOfNums_size B
    have L := laid_of A B n most row hA hB hr (by omega)
    have hz := L.size
    simp only [ByteArray.size_append, s32, zF, zA', zB'] at hz ⊢
    refine ev_pos (by omega) (ev_pos (by omega) (ev_pos (by omega) (ev_pos (by omega) (ev_pos (by omega) (ev_pos (by omega) ?_)))))
    have sp := spans_p _ 0 10000 (by rw [L.size]; omega)
    rw [L.spans (by omega) (by rw [L.size]; omega)] at sp
    refine Ev.bind sp (ev_pos rfl (ev_pos (by simp) (ev_pos ?_ reads_id)))
    show ((3 : Int) == 3 && ((83 : Int) == 83 && (((A.length : Nat) : Int) == ((A.length : Nat) : Int) && (((A.length + n + 1 + B.length + 1 + n : Nat) : Int) == _)))) = true
    rw [Bool.and_eq_true, Bool.and_eq_true, Bool.and_eq_true]
    exact ⟨rfl, rfl, beq_iff_eq.2 rfl, beq_iff_eq.2 (by omega)⟩
  | succ m ih =>
    intro i h1 h2
    by_cases h : i ≤ most + (x2.tmod 3).toNat
    · refine Ev.step (fun k => by rw [indenturelaw20_MdcodeWhole.l2]) ?_
      rw [hw]
      refine ev_pos (by omega) (ev_pos (by rw [List.length_replicate]; omega) ?_)
      rw [w64 (by omega) (by omega), show (i : Int) + 1 = ((i + 1 : Nat) : Int) by omega, ← List.replicate_succ']
      exact ih (i + 1) (by omega) (by omega)
    · exact ih i (by omega) h2
theorem whole_l1 (x0 : ByteArray) (x2 : Int) (hx : 0 ≤ x2 ∧ x2 ≤ 255) (A : List Int) (hA : okA A) (zA : A.length ≤ 200) (z0 : x0.size ≤ 500) :
    ∀ (m i : Nat) (B : List Int) (most row : Nat), x0.size ≤ i + m → i ≤ x0.size → B.length = i → okB B → Run B most row → most ≤ i → row ≤ i → Ev (fun k => indenturelaw20_MdcodeWhole.l1 k x0 x2 A (most : Int) (row : Int) B (i : Int)) true := by
  intro m
  induction m with
  | zero =>
    intro i B most row h1 h2 h3 hB hr hm hrow
    refine Ev.step (fun k => by rw [indenturelaw20_MdcodeWhole.l1]) ?_
    refine ev_neg (by omega) ?_
    exact whole_l2 x2 hx A B most row hA hB hr zA (by omega) (by omega) (most + (x2.tmod 3).toNat + 1) 0 (by omega) (by omega)
  | succ m ih =>
    intro i B most row h1 h2 h3 hB hr hm hrow
    by_cases h : i < x0.size
    rotate_left
    · refine Ev.step (fun k => by rw [indenturelaw20_MdcodeWhole.l1]) ?_
      refine ev_neg (by omega) ?_
      exact whole_l2 x2 hx A B most row hA hB hr zA (by omega) (by omega) (most + (x2.tmod 3).toNat + 1) 0 (by omega) (by omega)
    have hc := bt_range x0 (i : Int)
    refine Ev.step (fun k => by rw [indenturelaw20_MdcodeWhole.l1]) ?_
    refine ev_pos (by omega) (ev_pos (by omega) ?_)
    have m0 : mx (most : Int) 0 = (most : Int) := by unfold mx; split <;> omega
    have dot : Ev (fun k => indenturelaw20_MdcodeWhole.j3 k x0 x2 A (most : Int) (row : Int) B (i : Int) (bt x0 (i : Int)) true) true := by
      refine Ev.step (fun k => by rw [indenturelaw20_MdcodeWhole.j3]) ?_
      refine ev_pos rfl (ev_pos (by omega) ?_)
      rw [wr1 i (by omega), m0]
      exact ih (i + 1) (B ++ [46]) most 0 (by omega) (by omega) (by rw [List.length_append, List.length_singleton]; omega) (snoc_get (P := fun c => (0 ≤ c ∧ c ≤ 255) ∧ c ≠ 10 ∧ c ≠ 13) hB (by decide)) (hr.other (by decide)) (by omega) (by omega)
    by_cases c10 : bt x0 (i : Int) = 10
    · exact ev_pos c10 dot
    refine ev_neg c10 ?_
    by_cases c13 : bt x0 (i : Int) = 13
    · rw [beq_iff_eq.2 c13]; exact dot
    rw [beq_eq_false_iff_ne.2 c13]
    refine Ev.step (fun k => by rw [indenturelaw20_MdcodeWhole.j3]) ?_
    refine ev_neg (by simp) ?_
    have hB' : okB (B ++ [bt x0 (i : Int)]) := snoc_get (P := fun c => (0 ≤ c ∧ c ≤ 255) ∧ c ≠ 10 ∧ c ≠ 13) hB ⟨hc, c10, c13⟩
    by_cases c96 : bt x0 (i : Int) = 96
    · refine ev_pos c96 (ev_pos (by omega) ?_)
      have m1 : mx (most : Int) ((row + 1 : Nat) : Int) = ((max most (row + 1) : Nat) : Int) := by unfold mx; split <;> omega
      rw [wr1 i (by omega), wr1 row (by omega), m1]
      refine ih (i + 1) _ (max most (row + 1)) (row + 1) (by omega) (by omega) (by rw [List.length_append, List.length_singleton]; omega) hB' ?_ (by omega) (by omega)
      rw [c96]
      exact hr.tick
    · refine ev_neg c96 (ev_pos (by omega) ?_)
      rw [wr1 i (by omega), m0]
      exact ih (i + 1) _ most 0 (by omega) (by omega) (by rw [List.length_append, List.length_singleton]; omega) hB' (hr.other c96) (by omega) (by omega)
theorem whole_l0 (x0 x1 : ByteArray) (x2 : Int) (hx : 0 ≤ x2 ∧ x2 ≤ 255) (z0 : x0.size ≤ 500) (z1 : x1.size ≤ 200) :
    ∀ (m i : Nat) (A : List Int), x1.size ≤ i + m → i ≤ x1.size → A.length = i → okA A → Ev (fun k => indenturelaw20_MdcodeWhole.l0 k x0 x1 x2 A (i : Int)) true := by
  have done : ∀ (i : Nat) (A : List Int), ¬ i < x1.size → i ≤ x1.size → A.length = i → okA A → Ev (fun k => indenturelaw20_MdcodeWhole.l0 k x0 x1 x2 A (i : Int)) true := fun i A h h2 h3 hA => by
    refine Ev.step (fun k => by rw [indenturelaw20_MdcodeWhole.l0]) ?_
    refine ev_neg (by omega) ?_
    exact whole_l1 x0 x2 hx A hA (by omega) z0 x0.size 0 [] 0 0 (by omega) (by omega) rfl (fun k c h => by simp at h) ⟨fun i t h1 h2 hk => by simp at h2; omega, fun i hi hk => by simp⟩ (by omega) (by omega)
  intro m
  induction m with
  | zero => exact fun i A h1 h2 h3 hA => done i A (by omega) h2 h3 hA
  | succ m ih =>
    intro i A h1 h2 h3 hA
    by_cases h : i < x1.size
    rotate_left
    · exact done i A h h2 h3 hA
    refine Ev.step (fun k => by rw [indenturelaw20_MdcodeWhole.l0]) ?_
    refine ev_pos (by omega) (ev_pos (by omega) ?_)
    have hc := clA_ok _ (bt_range x1 (i : Int))
    have key := ih (i + 1) (A ++ [clA (bt x1 (i : Int))]) (by omega) (by omega) (by rw [List.length_append, List.length_singleton]; omega) (snoc_get (P := fun c => (0 ≤ c ∧ c ≤ 255) ∧ c ≠ 10 ∧ c ≠ 13 ∧ c ≠ 96 ∧ c ≠ 92 ∧ c ≠ 60 ∧ c ≠ 38) hA hc)
    rw [wr1 i (by omega)]
    unfold clA at key
    have hl : A.length < 140737488355328 := by omega
    by_cases c1 : bt x1 (i : Int) = 10
    · rw [if_pos c1] at key; exact ev_pos c1 (ev_pos hl key)
    refine ev_neg c1 ?_
    rw [if_neg c1] at key
    by_cases c2 : bt x1 (i : Int) = 13
    · rw [if_pos c2] at key; exact ev_pos c2 (ev_pos hl key)
    refine ev_neg c2 ?_
    rw [if_neg c2] at key
    by_cases c3 : bt x1 (i : Int) = 96
    · rw [if_pos c3] at key; exact ev_pos c3 (ev_pos hl key)
    refine ev_neg c3 ?_
    rw [if_neg c3] at key
    by_cases c4 : bt x1 (i : Int) = 92
    · rw [if_pos c4] at key; exact ev_pos c4 (ev_pos hl key)
    refine ev_neg c4 ?_
    rw [if_neg c4] at key
    by_cases c5 : bt x1 (i : Int) = 60
    · rw [if_pos c5] at key; exact ev_pos c5 (ev_pos hl key)
    refine ev_neg c5 ?_
    rw [if_neg c5] at key
    by_cases c6 : bt x1 (i : Int) = 38
    · rw [if_pos c6] at key; exact ev_pos c6 (ev_pos hl key)
    rw [if_neg c6] at key
    exact ev_neg c6 (ev_pos hl key)
theorem MdcodeWhole : indenturelaw20_MdcodeWhole.Pure := by
  intro a0 a1 a2 h0 h1 h2
  have hx : 0 ≤ a2 ∧ a2 ≤ 255 := by simpa [Lit.wf, IntKind.min, IntKind.max, IntKind.signed, IntKind.bits] using h2
  refine Ev.rounds ?_
  unfold indenturelaw20_MdcodeWhole.f
  have yes : Ev (fun k => indenturelaw20_MdcodeWhole.j0 k a0 a1 a2 true) true := by
    refine Ev.step (fun k => by rw [indenturelaw20_MdcodeWhole.j0]) ?_
    exact ev_pos rfl (Ev.now _)
  by_cases c : (a0.size : Int) > 500
  · exact ev_pos c yes
  refine ev_neg c ?_
  by_cases c3 : (a1.size : Int) > 200
  · rw [decide_eq_true c3]; exact yes
  rw [decide_eq_false c3]
  refine Ev.step (fun k => by rw [indenturelaw20_MdcodeWhole.j0]) ?_
  refine ev_neg (by simp) ?_
  exact whole_l0 a0 a1 a2 hx (by omega) (by omega) a1.size 0 [] (by omega) (by omega) rfl (fun k c h => by simp at h)
end Go.Proofs.YtodgioleaegpfaaDoor.Pure
