/- The plain law MdcodeOrder: spans lie in order; what stands behind the part plays no part. -/
import Derived.Test.YtodgioleaegpfaaDoorLibSp
import Derived.Test.YtodgioleaegpfaaDoorQ21
namespace Go.Proofs.YtodgioleaegpfaaDoor.Pure
open Go.RowKit Go.Proofs.YtodgioleaegpfaaDoor.P Go.Proofs.YtodgioleaegpfaaDoorW.PrintWords Go.Proofs.YtodgioleaegpfaaDoorW.PrintLast Go.Proofs.YtodgioleaegpfaaDoorW.PrintMore
set_option linter.unusedVariables false
set_option linter.unusedSimpArgs false
theorem rdN_kind (s : ByteArray) (last lf : Bool) : (rdN s last lf).1 = 0 ∨ 83 ≤ (rdN s last lf).1 := by
  unfold rdN
  repeat' split
  all_goals simp
theorem rdS_kind (line : ByteArray) (x en : Int) : (rdS line x en).1 = 0 ∨ 83 ≤ (rdS line x en).1 := by
  unfold rdS
  split
  · exact .inl rfl
  · unfold at_
    dsimp only
    have := rdN_kind (line.extract x.toNat (min en (endN line : Int)).toNat) (decide ((endN line : Int) ≤ en)) (lfB line)
    omega
/-- What the law asks of each span. -/
def okS (line : ByteArray) (en : Int) : Int → List S31 → Prop
  | _, [] => True
  | x, v :: r => v.f0 = 3 ∧ 83 ≤ v.f1 ∧ x ≤ v.f2 ∧ v.f2 < v.f3 ∧ v.f3 ≤ (endN line : Int) ∧ v.f3 ≤ en ∧ rdS line v.f2 en = (v.f1, v.f3) ∧ okS line en v.f3 r
theorem okS_lower (line : ByteArray) (en : Int) {x y : Int} (h : y ≤ x) : ∀ {xs : List S31}, okS line en x xs → okS line en y xs
  | [], _ => trivial
  | v :: r, ⟨a, b, c, d⟩ => ⟨a, b, Int.le_trans h c, d⟩
theorem spL_ok (line : ByteArray) (en : Int) : ∀ (m : Nat) (x y : Int), y ≤ x → okS line en y (spL line en m x)
  | 0, x, y, h => trivial
  | m + 1, x, y, h => by
    by_cases hin : 0 ≤ x ∧ x < en ∧ x < (endN line : Int)
    rotate_left
    · rw [spL_out line en _ x hin]; trivial
    obtain ⟨r1, r2, r3⟩ := rdS_step line x en hin
    by_cases h0 : (rdS line x en).1 = 0
    · rw [spL_no line en m x hin h0]
      exact spL_ok line en m _ y (by omega)
    · rw [spL_yes line en m x hin h0]
      exact ⟨rfl, (by have := rdS_kind line x en; show (83 : Int) ≤ (rdS line x en).1; omega), h, r1, r3, r2, rfl, spL_ok line en m _ _ (Int.le_refl _)⟩
theorem spL_fuel (line : ByteArray) (en : Int) : ∀ (m m' : Nat) (x : Int), (endN line : Int) ≤ x + m ∨ en ≤ x + m ∨ x < 0 → m ≤ m' → spL line en m x = spL line en m' x
  | 0, m', x, h, _ => by rw [spL_out line en m' x (by omega)]; rfl
  | m + 1, 0, x, h, hm => by omega
  | m + 1, m' + 1, x, h, hm => by
    by_cases hin : 0 ≤ x ∧ x < en ∧ x < (endN line : Int)
    rotate_left
    · rw [spL_out line en _ x hin, spL_out line en _ x hin]
    obtain ⟨r1, r2, r3⟩ := rdS_step line x en hin
    have ih := spL_fuel line en m m' (rdS line x en).2 (by omega) (by omega)
    by_cases h0 : (rdS line x en).1 = 0
    · rw [spL_no line en m x hin h0, spL_no line en m' x hin h0, ih]
    · rw [spL_yes line en m x hin h0, spL_yes line en m' x hin h0, ih]
/-- Two lines that are one up to the part's end, which both have behind it. -/
theorem rdN_notlast (s : ByteArray) (lf lf' : Bool) : rdN s false lf = rdN s false lf' := by
  unfold rdN
  simp only [Bool.false_eq_true, false_and, and_false, if_false]
theorem rdS_front (line line' : ByteArray) (E : Nat) (h1 : E < endN line) (h2 : E < endN line') (hb : ∀ a : Nat, line'.extract a E = line.extract a E) (x : Int) : rdS line' x (E : Int) = rdS line x (E : Int) := by
  by_cases h : x < 0 ∨ x ≥ (E : Int)
  · rw [rdS_out _ _ _ (by omega), rdS_out _ _ _ (by omega)]
  · obtain ⟨A, rfl⟩ : ∃ A : Nat, x = (A : Int) := ⟨x.toNat, by omega⟩
    rw [rdS_in line' A E (E : Int) (by omega) (by omega), rdS_in line A E (E : Int) (by omega) (by omega), hb, decide_eq_false (show ¬ E = endN line' by omega), decide_eq_false (show ¬ E = endN line by omega), rdN_notlast _ (lfB line') (lfB line)]
theorem spL_front (line line' : ByteArray) (E : Nat) (h1 : E < endN line) (h2 : E < endN line') (hb : ∀ a : Nat, line'.extract a E = line.extract a E) : ∀ (m : Nat) (x : Int), spL line' (E : Int) m x = spL line (E : Int) m x
  | 0, x => rfl
  | m + 1, x => by
    by_cases hin : 0 ≤ x ∧ x < (E : Int)
    rotate_left
    · rw [spL_out _ _ _ _ (by omega), spL_out _ _ _ _ (by omega)]
    have e := rdS_front line line' E h1 h2 hb x
    by_cases h0 : (rdS line x (E : Int)).1 = 0
    · rw [spL_no line' _ m x (by omega) (by rw [e]; exact h0), spL_no line _ m x (by omega) h0, e]
      exact spL_front line line' E h1 h2 hb m _
    · rw [spL_yes line' _ m x (by omega) (by rw [e]; exact h0), spL_yes line _ m x (by omega) h0, e, spL_front line line' E h1 h2 hb m _]
/-- A line's end lies behind a place that is no CR and ahead of which no LF stands. -/
theorem endN_gt (s : ByteArray) (E : Nat) (hE : E < s.size) (h1 : ∀ k : Nat, k ≤ E → bt s (k : Int) ≠ 10) (h2 : bt s (E : Int) ≠ 13) : E < endN s := by
  unfold endN
  split
  · exact hE
  · rename_i i h
    obtain ⟨a1, a2, a3, a4⟩ := fst_some h
    have hi : E < i := by
      by_cases hc : i ≤ E
      · exact absurd (by simpa using a3) (h1 i hc)
      · omega
    split
    · rename_i hq
      by_cases he : i - 1 = E
      · rw [he] at hq; exact absurd hq.2 h2
      · omega
    · exact hi
theorem spS_front (line behind : ByteArray) (fr : Int) (E : Nat) (h1 : E < endN line) : spS ((line.extract 0 E ++ (⟨#[46]⟩ : ByteArray)) ++ behind) fr (E : Int) = spS line fr (E : Int) := by
  have hl := endN_le line
  have hz := size_ext line 0 E (by omega)
  have z1 : (⟨#[46]⟩ : ByteArray).size = 1 := rfl
  obtain ⟨l', hl'⟩ : ∃ l', l' = (line.extract 0 E ++ (⟨#[46]⟩ : ByteArray)) ++ behind := ⟨_, rfl⟩
  rw [← hl']
  have zs : l'.size = E + 1 + behind.size := by rw [hl', ByteArray.size_append, ByteArray.size_append]; omega
  have b0 : ∀ k : Nat, k < E → bt l' (k : Int) = bt line (k : Int) := fun k hk => by
    rw [hl', bt_app1 _ _ k (by rw [ByteArray.size_append]; omega), bt_app1 _ _ k (by omega), bt_ext _ _ _ _ (by omega) (by omega), Nat.zero_add]
  have b1 : bt l' (E : Int) = 46 := by
    have := bt_app2 (line.extract 0 E) (⟨#[46]⟩ : ByteArray) 0 (by omega)
    have e2 : (line.extract 0 E).size = E := by omega
    rw [e2, Nat.add_zero] at this
    rw [hl', bt_app1 _ _ E (by rw [ByteArray.size_append]; omega), this]
    rfl
  have h2 : E < endN l' := endN_gt l' E (by omega) (fun k hk => by
    by_cases e : k = E
    · rw [e, b1]; decide
    · rw [b0 k (by omega)]; exact endN_lf line k (by omega)) (by rw [b1]; decide)
  have hb : ∀ a : Nat, l'.extract a E = line.extract a E := fun a => by
    by_cases ha : a ≤ E
    · refine ext_bt (by rw [size_ext _ _ _ (by omega), size_ext _ _ _ (by omega)]) fun i hi => ?_
      rw [size_ext _ _ _ (by omega)] at hi
      rw [bt_ext _ _ _ _ (by omega) (by omega), bt_ext _ _ _ _ (by omega) (by omega), b0 _ (by omega)]
    · refine ext_bt (by rw [size_ext _ _ _ (by omega), size_ext _ _ _ (by omega)]) fun i hi => ?_
      rw [size_ext _ _ _ (by omega)] at hi
      omega
  unfold spS
  by_cases hf : fr < 0
  · rw [spL_out _ _ _ _ (by omega), spL_out _ _ _ _ (by omega)]
  · rw [spL_fuel l' (E : Int) (endN l') (endN l' + endN line) fr (by omega) (by omega), spL_fuel line (E : Int) (endN line) (endN l' + endN line) fr (by omega) (by omega)]
    exact spL_front line l' E h1 h2 hb _ _
theorem order_l0 (a0 : ByteArray) (a1 a2 : Int) (a3 : ByteArray) (h0 : a0.size ≤ 500) (h3 : a3.size ≤ 200) (L : List S31) (hL : L = spS a0 a1 a2) (hlen : L.length ≤ 4000000000) :
    ∀ (m i : Nat) (x : Int), L.length ≤ i + m → okS a0 a2 x (L.drop i) → Ev (fun k => indenturelaw20_MdcodeOrder.l0 k a0 a1 a2 a3 ((endN a0 : Nat) : Int) L x (i : Int)) true
  | 0, i, x, hm, hok => by
    have hl := endN_le a0
    refine Ev.step (fun k => by rw [indenturelaw20_MdcodeOrder.l0]) ?_
    refine ev_neg (by omega) ?_
    have out : ¬ (0 ≤ a1 ∧ a1 < a2 ∧ a1 < (endN a0 : Int)) → Ev (fun k => indenturelaw20_MdcodeOrder.j2 k a0 a1 a2 a3 ((endN a0 : Nat) : Int) L true) true := fun h => by
      refine Ev.step (fun k => by rw [indenturelaw20_MdcodeOrder.j2]) ?_
      refine ev_pos rfl (ev_pos ?_ reads_id)
      rw [hL]
      unfold spS
      rw [spL_out _ _ _ _ h]; rfl
    by_cases c1 : a1 < 0
    · exact ev_pos c1 (out (by omega))
    refine ev_neg c1 ?_
    by_cases c2 : a1 ≥ a2
    · exact ev_pos c2 (out (by omega))
    refine ev_neg c2 ?_
    by_cases c3 : a1 ≥ ((endN a0 : Nat) : Int)
    · rw [decide_eq_true c3]; exact out (by omega)
    rw [decide_eq_false c3]
    refine Ev.step (fun k => by rw [indenturelaw20_MdcodeOrder.j2]) ?_
    refine ev_neg (by simp) ?_
    by_cases c4 : a2 ≥ ((endN a0 : Nat) : Int)
    · exact ev_pos c4 reads_id
    refine ev_neg c4 ?_
    obtain ⟨E, rfl⟩ : ∃ E : Nat, a2 = (E : Int) := ⟨a2.toNat, by omega⟩
    have hz := size_ext a0 0 E (by omega)
    have z1 : (⟨#[46]⟩ : ByteArray).size = 1 := rfl
    rw [Int.toNat_natCast]
    refine ev_pos (by omega) (ev_pos (by omega) (ev_pos (by omega) (ev_pos (by rw [ByteArray.size_append]; omega) ?_)))
    have hs := spans_p ((a0.extract 0 E ++ (⟨#[46]⟩ : ByteArray)) ++ a3) a1 (E : Int) (by rw [ByteArray.size_append, ByteArray.size_append]; omega)
    rw [spS_front a0 a3 a1 E (by omega), ← hL] at hs
    exact Ev.bind hs (Ev.bind (same_p L (by omega)) (ev_pos rfl reads_id))
  | m + 1, i, x, hm, hok => by
    by_cases h : i < L.length
    rotate_left
    · exact order_l0 a0 a1 a2 a3 h0 h3 L hL hlen 0 i x (by omega) hok
    rw [List.drop_eq_getElem_cons h] at hok
    obtain ⟨o1, o2, o3, o4, o5, o6, o7, o8⟩ := hok
    have e : rd_T31 L (i : Int) = L[i] := by
      unfold rd_T31
      rw [Int.toNat_natCast, List.getD_eq_getElem?_getD, List.getElem?_eq_getElem h]; rfl
    refine Ev.step (fun k => by rw [indenturelaw20_MdcodeOrder.l0]) ?_
    rw [e]
    refine ev_pos (by omega) (ev_pos (by omega) ?_)
    refine Ev.bind (read_p a0 (L[i]).f2 a2 (by omega)) ?_
    rw [o7]
    refine ev_pos o1 (ev_neg (by omega) (ev_neg (by omega) (ev_neg (by omega) (ev_neg (by omega) (ev_neg (by omega) (ev_pos rfl (ev_pos rfl ?_)))))))
    rw [w64 (by omega) (by omega), show (i : Int) + 1 = ((i + 1 : Nat) : Int) by omega]
    exact order_l0 a0 a1 a2 a3 h0 h3 L hL hlen m (i + 1) _ (by omega) o8
theorem MdcodeOrder : indenturelaw20_MdcodeOrder.Pure := by
  intro a0 a1 a2 a3 h0 h1 h2 h3
  refine Ev.rounds ?_
  unfold indenturelaw20_MdcodeOrder.f
  have yes : Ev (fun k => indenturelaw20_MdcodeOrder.j0 k a0 a1 a2 a3 true) true := by
    refine Ev.step (fun k => by rw [indenturelaw20_MdcodeOrder.j0]) ?_
    exact ev_pos rfl (Ev.now _)
  by_cases c : (a0.size : Int) > 500
  · exact ev_pos c yes
  refine ev_neg c ?_
  by_cases c3 : (a3.size : Int) > 200
  · rw [decide_eq_true c3]; exact yes
  rw [decide_eq_false c3]
  refine Ev.step (fun k => by rw [indenturelaw20_MdcodeOrder.j0]) ?_
  have hl := endN_le a0
  have hn := spL_len a0 a2 (endN a0) a1
  refine ev_neg (by simp) (Ev.bind (end_val a0 (by omega)) (Ev.bind (spans_p a0 a1 a2 (by omega)) ?_))
  have hlen : (spS a0 a1 a2).length ≤ 4000000000 := by unfold spS; omega
  refine order_l0 a0 a1 a2 a3 (by omega) (by omega) _ rfl hlen (spS a0 a1 a2).length 0 (mx a1 0) (by omega) ?_
  rw [List.drop_zero]
  by_cases hf : 0 ≤ a1
  · exact spL_ok a0 a2 (endN a0) a1 _ (by unfold mx; split <;> omega)
  · unfold spS
    rw [spL_out _ _ _ _ (by omega)]
    trivial
end Go.Proofs.YtodgioleaegpfaaDoor.Pure
