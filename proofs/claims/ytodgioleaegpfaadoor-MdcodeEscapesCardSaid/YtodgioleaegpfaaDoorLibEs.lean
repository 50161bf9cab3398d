/- The plain law MdcodeEscapes: a text in which each mark has a backslash ahead is read as escapes alone. -/
import Derived.Test.YtodgioleaegpfaaDoorLibWs
import Derived.Test.YtodgioleaegpfaaDoorE5
namespace Go.Proofs.YtodgioleaegpfaaDoor.Pure
open Go.RowKit Go.Proofs.YtodgioleaegpfaaDoor.P Go.Proofs.YtodgioleaegpfaaDoorW.PrintWords Go.Proofs.YtodgioleaegpfaaDoorW.PrintLast Go.Proofs.YtodgioleaegpfaaDoorW.PrintMore
set_option linter.unusedVariables false
set_option linter.unusedSimpArgs false
theorem ev_ite {α : Type} {c : Prop} [Decidable c] {f g : Nat → Option α} {r : α} (h1 : c → Ev f r) (h2 : ¬ c → Ev g r) : Ev (fun n => if c then f n else g n) r := by
  by_cases h : c
  · exact ev_pos h (h1 h)
  · exact ev_neg h (h2 h)
def mkB (c : Int) : Prop := (33 ≤ c ∧ c ≤ 47) ∨ (58 ≤ c ∧ c ≤ 64) ∨ (91 ≤ c ∧ c ≤ 96) ∨ (123 ≤ c ∧ c ≤ 126)
instance (c : Int) : Decidable (mkB c) := by unfold mkB; infer_instance
theorem markB_iff (c : Int) : markB c = true ↔ mkB c := by
  unfold markB mdcode_mark.f mkB
  constructor
  · intro h
    repeat' split at h
    all_goals first
      | omega
      | (simp at h; done)
      | (have := of_decide_eq_true h; omega)
  · intro h
    repeat' split
    all_goals first
      | rfl
      | (exfalso; omega)
      | exact decide_eq_true (by omega)
/-- The bytes that are laid for the bytes of a text. -/
def fl : List Int → List Int
  | [] => []
  | c :: r => if mkB c then 92 :: c :: fl r else c :: fl r
/-- The escapes that are told. -/
def evs : Nat → List Int → List S31
  | _, [] => []
  | p, c :: r => if mkB c then ⟨3, 90, (p : Int), ((p + 2 : Nat) : Int)⟩ :: evs (p + 2) r else evs (p + 1) r
theorem fl_snoc (c : Int) : ∀ us : List Int, fl (us ++ [c]) = fl us ++ (if mkB c then [92, c] else [c])
  | [] => by
    simp only [List.nil_append, fl]
  | u :: us => by
    have ih := fl_snoc c us
    simp only [List.cons_append, fl, ih]
    by_cases h : mkB u
    · rw [if_pos h, if_pos h]; rfl
    · rw [if_neg h, if_neg h]; rfl
theorem evs_snoc (c : Int) : ∀ (us : List Int) (p : Nat), evs p (us ++ [c]) = evs p us ++ (if mkB c then [⟨3, 90, ((p + (fl us).length : Nat) : Int), ((p + (fl us).length + 2 : Nat) : Int)⟩] else [])
  | [], p => by
    simp only [List.nil_append, evs, fl, List.length_nil, Nat.add_zero]
  | u :: us, p => by
    simp only [List.cons_append, evs, fl]
    by_cases h : mkB u
    · rw [if_pos h, if_pos h, if_pos h, evs_snoc c us (p + 2), List.cons_append]
      simp only [List.length_cons]
      rw [show p + 2 + (fl us).length = p + ((fl us).length + 1 + 1) by omega]
    · rw [if_neg h, if_neg h, if_neg h, evs_snoc c us (p + 1)]
      simp only [List.length_cons]
      rw [show p + 1 + (fl us).length = p + ((fl us).length + 1) by omega]
theorem fl_len : ∀ us : List Int, us.length ≤ (fl us).length ∧ (fl us).length ≤ 2 * us.length
  | [] => ⟨Nat.le_refl _, Nat.le_refl _⟩
  | u :: us => by
    have := fl_len us
    unfold fl
    split <;> simp only [List.length_cons] <;> omega
theorem evs_len : ∀ (us : List Int) (p : Nat), (evs p us).length ≤ us.length
  | [], p => Nat.le_refl _
  | u :: us, p => by
    unfold evs
    split
    · have := evs_len us (p + 2); simp only [List.length_cons]; omega
    · have := evs_len us (p + 1); simp only [List.length_cons]; omega
def okU (us : List Int) : Prop := ∀ c ∈ us, (0 ≤ c ∧ c ≤ 255) ∧ c ≠ 10 ∧ c ≠ 13
theorem okU_fl : ∀ {us : List Int}, okU us → okU (fl us)
  | [], _ => fun c hc => by cases hc
  | u :: us, h => by
    have ih := okU_fl (us := us) (fun c hc => h c (List.mem_cons_of_mem _ hc))
    have hu := h u List.mem_cons_self
    unfold fl
    split
    · intro c hc
      rcases List.mem_cons.1 hc with rfl | hc
      · decide
      rcases List.mem_cons.1 hc with rfl | hc
      · exact hu
      · exact ih c hc
    · intro c hc
      rcases List.mem_cons.1 hc with rfl | hc
      · exact hu
      · exact ih c hc
section
variable {b : List Int}
theorem esc_bt (hb : okU b) (k : Nat) (c : Int) (h : b[k]? = some c) : bt (strOfNums (b ++ [120, 13, 10])) (k : Int) = c := by
  obtain ⟨hk, he⟩ := List.getElem?_eq_some_iff.1 h
  exact bt_str _ k c (hb c (he ▸ List.getElem_mem hk)).1 ((List.getElem?_append_left hk).trans h)
theorem esc_tail (k : Nat) (hk : k < 3) (c : Int) (hc : 0 ≤ c ∧ c ≤ 255) (h : ([120, 13, 10] : List Int)[k]? = some c) : bt (strOfNums (b ++ [120, 13, 10])) ((b.length + k : Nat) : Int) = c :=
  bt_str _ _ c hc (by rw [List.getElem?_append_right (by omega), Nat.add_sub_cancel_left]; exact h)
theorem esc_size : (strOfNums (b ++ [120, 13, 10])).size = b.length + 3 := by rw [strOfNums_size, List.length_append]; rfl
theorem esc_end (hb : okU b) : endN (strOfNums (b ++ [120, 13, 10])) = b.length + 1 := by
  have hz := esc_size (b := b)
  have h1 : bt (strOfNums (b ++ [120, 13, 10])) ((b.length + 1 : Nat) : Int) = 13 := esc_tail 1 (by omega) 13 (by decide) rfl
  have h2 : bt (strOfNums (b ++ [120, 13, 10])) ((b.length + 2 : Nat) : Int) = 10 := esc_tail 2 (by omega) 10 (by decide) rfl
  have h0 : bt (strOfNums (b ++ [120, 13, 10])) ((b.length + 0 : Nat) : Int) = 120 := esc_tail 0 (by omega) 120 (by decide) rfl
  have hf : fst (fun i => bt (strOfNums (b ++ [120, 13, 10])) (i : Int) == 10) (strOfNums (b ++ [120, 13, 10])).size 0 = some (b.length + 2) := fst_eq (Nat.zero_le _) (by omega) (beq_iff_eq.2 h2) (fun k _ hk => by
    refine beq_eq_false_iff_ne.2 fun e => ?_
    by_cases c1 : k < b.length
    · have hg := List.getElem?_eq_getElem c1
      rw [esc_bt hb k _ hg] at e
      exact (hb _ (List.getElem_mem c1)).2.1 e
    by_cases c2 : k = b.length + 0
    · rw [c2, h0] at e; omega
    · rw [show k = b.length + 1 by omega, h1] at e; omega)
  unfold endN
  rw [hf]
  dsimp only
  rw [if_pos ⟨by omega, by rw [show b.length + 2 - 1 = b.length + 1 by omega]; exact h1⟩]
  omega
/-- What Read tells at a place of it. -/
theorem esc_rd (hb : okU b) (p : Nat) (hp : p ≤ b.length) (c : Int) (hc : bt (strOfNums (b ++ [120, 13, 10])) (p : Int) = c) :
    (¬ mkB c → rdS (strOfNums (b ++ [120, 13, 10])) (p : Int) ((b.length + 1 : Nat) : Int) = (0, ((p + 1 : Nat) : Int))) ∧
    (c = 92 → p + 1 < b.length + 1 → (∀ d, bt (strOfNums (b ++ [120, 13, 10])) ((p + 1 : Nat) : Int) = d → mkB d → rdS (strOfNums (b ++ [120, 13, 10])) (p : Int) ((b.length + 1 : Nat) : Int) = (90, ((p + 2 : Nat) : Int)))) := by
  have hz := esc_size (b := b)
  have he := esc_end hb
  have z := size_ext (strOfNums (b ++ [120, 13, 10])) p (b.length + 1) (by omega)
  have b0 : bt ((strOfNums (b ++ [120, 13, 10])).extract p (b.length + 1)) 0 = c := by
    have h0 : bt ((strOfNums (b ++ [120, 13, 10])).extract p (b.length + 1)) 0 = bt (strOfNums (b ++ [120, 13, 10])) (p : Int) := bt_ext (strOfNums (b ++ [120, 13, 10])) p (b.length + 1) 0 (by omega) (by omega)
    exact h0.trans hc
  rw [rdS_in _ p (b.length + 1) ((b.length + 1 : Nat) : Int) (by omega) (by omega)]
  refine ⟨fun hm => ?_, fun h92 h1 d hd hm => ?_⟩
  · have : rdN ((strOfNums (b ++ [120, 13, 10])).extract p (b.length + 1)) (decide (b.length + 1 = endN (strOfNums (b ++ [120, 13, 10])))) (lfB (strOfNums (b ++ [120, 13, 10]))) = (0, 1) := by
      unfold mkB at hm
      by_cases c32 : c = 32
      · refine rdN_sp_no (b0.trans c32) fun hh => ?_
        have := hh.2.2.2 (b.length - p) (by omega)
        rw [bt_ext _ p _ _ (by omega) (by omega), show p + (b.length - p) = b.length + 0 by omega, esc_tail 0 (by omega) 120 (by decide) rfl] at this
        omega
      · exact rdN_other (by omega) (by omega) (by omega) (by omega) (by omega)
    rw [this]; rfl
  · have b1 : bt ((strOfNums (b ++ [120, 13, 10])).extract p (b.length + 1)) 1 = d := by
      have := bt_ext (strOfNums (b ++ [120, 13, 10])) p (b.length + 1) 1 (by omega) (by omega)
      rw [hd] at this
      exact this
    rw [rdN_bs_mark (b0.trans h92) (by omega) (by rw [b1]; exact (markB_iff d).2 hm)]; rfl
theorem esc_walk (hb : okU b) : ∀ (us pre : List Int) (m : Nat), b = pre ++ fl us → b.length + 1 ≤ pre.length + m → spL (strOfNums (b ++ [120, 13, 10])) ((b.length + 1 : Nat) : Int) m (pre.length : Int) = evs pre.length us
  | [], pre, m, hpre, hm => by
    have he := esc_end hb
    have hl : pre.length = b.length := by rw [hpre]; simp [fl]
    cases m with
    | zero => omega
    | succ m =>
      have h := (esc_rd hb b.length (Nat.le_refl _) 120 (esc_tail 0 (by omega) 120 (by decide) rfl)).1 (by decide)
      rw [hl, spL_no _ _ m _ (by omega) (by rw [h]), h]
      dsimp only
      rw [spL_out _ _ _ _ (by omega)]
      rfl
  | c :: us, pre, m, hpre, hm => by
    have he := esc_end hb
    by_cases hk : mkB c
    · have hb2 : b = (pre ++ [92, c]) ++ fl us := by rw [hpre, fl, if_pos hk]; simp
      have hl : b.length = pre.length + 2 + (fl us).length := by rw [hb2]; simp; omega
      have g0 : b[pre.length]? = some 92 := by rw [hb2]; simp
      have g1 : b[pre.length + 1]? = some c := by rw [hb2]; simp
      have h := (esc_rd hb pre.length (by omega) 92 (esc_bt hb _ _ g0)).2 rfl (by omega) c (esc_bt hb _ _ g1) hk
      cases m with
      | zero => omega
      | succ m =>
        rw [spL_yes _ _ m _ (by omega) (by rw [h]; exact (by decide : (90 : Int) ≠ 0)), h, evs, if_pos hk]
        have ih := esc_walk hb us (pre ++ [92, c]) m hb2 (by simp; omega)
        rw [List.length_append] at ih
        exact congrArg _ ih
    · have hb2 : b = (pre ++ [c]) ++ fl us := by rw [hpre, fl, if_neg hk]; simp
      have hl : b.length = pre.length + 1 + (fl us).length := by rw [hb2]; simp; omega
      have g0 : b[pre.length]? = some c := by rw [hb2]; simp
      have h := (esc_rd hb pre.length (by omega) c (esc_bt hb _ _ g0)).1 hk
      cases m with
      | zero => omega
      | succ m =>
        rw [spL_no _ _ m _ (by omega) (by rw [h]), h, evs, if_neg hk]
        have ih := esc_walk hb us (pre ++ [c]) m hb2 (by simp; omega)
        rw [List.length_append] at ih
        exact ih
end
theorem esc_loop (x0 : ByteArray) (z0 : x0.size ≤ 500) : ∀ (m i : Nat) (us : List Int), x0.size ≤ i + m → i ≤ x0.size → us.length = i → okU us → Ev (fun k => indenturelaw20_MdcodeEscapes.l0 k x0 (fl us) (evs 0 us) (i : Int)) true := by
  have done : ∀ (i : Nat) (us : List Int), ¬ i < x0.size → i ≤ x0.size → us.length = i → okU us → Ev (fun k => indenturelaw20_MdcodeEscapes.l0 k x0 (fl us) (evs 0 us) (i : Int)) true := fun i us h h2 h3 hu => by
    have hl := fl_len us
    have hn := evs_len us 0
    refine Ev.step (fun k => by rw [indenturelaw20_MdcodeEscapes.l0]) ?_
    refine ev_neg (by omega) (ev_pos (by rw [strOfNums_size]; omega) ?_)
    rw [wr1 _ (by omega)]
    have e : strOfNums (fl us) ++ (⟨#[120, 13, 10]⟩ : ByteArray) = strOfNums (fl us ++ [120, 13, 10]) := by rw [str_app]; rfl
    rw [e]
    have sp := spans_p (strOfNums (fl us ++ [120, 13, 10])) 0 (((fl us).length + 1 : Nat) : Int) (by rw [esc_size]; omega)
    have w := esc_walk (okU_fl hu) us [] (endN (strOfNums (fl us ++ [120, 13, 10]))) rfl (by rw [esc_end (okU_fl hu)]; simp)
    have w2 : spS (strOfNums (fl us ++ [120, 13, 10])) 0 (((fl us).length + 1 : Nat) : Int) = evs 0 us := w
    rw [w2] at sp
    exact Ev.bind sp (Ev.bind (same_p _ (by omega)) (ev_pos rfl reads_id))
  intro m
  induction m with
  | zero => exact fun i us h1 h2 h3 hu => done i us (by omega) h2 h3 hu
  | succ m ih =>
    intro i us h1 h2 h3 hu
    by_cases h : i < x0.size
    rotate_left
    · exact done i us h h2 h3 hu
    have hl := fl_len us
    have hn := evs_len us 0
    have hc := bt_range x0 (i : Int)
    have snoc : ∀ c : Int, ((0 ≤ c ∧ c ≤ 255) ∧ c ≠ 10 ∧ c ≠ 13) → okU (us ++ [c]) := fun c hc x hx => by
      rcases List.mem_append.1 hx with hx | hx
      · exact hu x hx
      · rw [List.mem_singleton.1 hx]; exact hc
    have key : ∀ c : Int, ((0 ≤ c ∧ c ≤ 255) ∧ c ≠ 10 ∧ c ≠ 13) → Ev (fun k => indenturelaw20_MdcodeEscapes.l0 k x0 (fl (us ++ [c])) (evs 0 (us ++ [c])) ((i + 1 : Nat) : Int)) true := fun c hc =>
      ih (i + 1) (us ++ [c]) (by omega) (by omega) (by rw [List.length_append, List.length_singleton]; omega) (snoc c hc)
    have marked : ∀ c : Int, ((0 ≤ c ∧ c ≤ 255) ∧ c ≠ 10 ∧ c ≠ 13) → mkB c → Ev (fun k => if (evs 0 us).length < 5864062014805 then (if (fl us).length < 140737488355328 then ((some (fl us ++ [92] : List Int)).bind fun y117 => (if y117.length < 140737488355328 then (indenturelaw20_MdcodeEscapes.l0 k x0 (y117 ++ [c]) (evs 0 us ++ [(⟨3, 90, ((fl us).length : Int), wrap64 (((fl us).length : Int) + 2)⟩ : S31)]) (wrap64 ((i : Int) + 1))) else (none))) else (none)) else (none)) true := fun c hc hm => by
      refine ev_pos (by omega) (ev_pos (by omega) (Ev.bind (Ev.now _) (ev_pos (by rw [List.length_append, List.length_singleton]; omega) ?_)))
      have hk := key c hc
      rw [fl_snoc, evs_snoc, if_pos hm, if_pos hm, Nat.zero_add] at hk
      rw [wr1 i (by omega), wr2 _ (by omega), List.append_assoc]
      exact hk
    have plain : ∀ c : Int, ((0 ≤ c ∧ c ≤ 255) ∧ c ≠ 10 ∧ c ≠ 13) → ¬ mkB c → Ev (fun k => if (fl us).length < 140737488355328 then (indenturelaw20_MdcodeEscapes.l0 k x0 (fl us ++ [c]) (evs 0 us) (wrap64 ((i : Int) + 1))) else (none)) true := fun c hc hm => by
      refine ev_pos (by omega) ?_
      have hk := key c hc
      rw [fl_snoc, evs_snoc, if_neg hm, if_neg hm, List.append_nil] at hk
      rw [wr1 i (by omega)]
      exact hk
    clear key ih done snoc
    refine Ev.step (fun k => by rw [indenturelaw20_MdcodeEscapes.l0]) ?_
    refine ev_pos (by omega) (ev_pos (by omega) ?_)
    have dot : Ev (fun k => indenturelaw20_MdcodeEscapes.j1 k x0 (fl us) (evs 0 us) (i : Int) (bt x0 (i : Int)) true) true := by
      refine Ev.step (fun k => by rw [indenturelaw20_MdcodeEscapes.j1]) ?_
      exact ev_pos rfl (marked 46 (by decide) (by decide))
    by_cases c10 : bt x0 (i : Int) = 10
    · exact ev_pos c10 dot
    refine ev_neg c10 ?_
    by_cases c13 : bt x0 (i : Int) = 13
    · rw [beq_iff_eq.2 c13]; exact dot
    rw [beq_eq_false_iff_ne.2 c13]
    refine Ev.step (fun k => by rw [indenturelaw20_MdcodeEscapes.j1]) ?_
    refine ev_neg (by simp) ?_
    have hm := marked _ ⟨hc, c10, c13⟩
    have hp := plain _ ⟨hc, c10, c13⟩
    clear marked plain dot
    generalize bt x0 (i : Int) = c at *
    unfold mkB at hm hp
    repeat' first
      | exact hm (by omega)
      | exact hp (by omega)
      | refine ev_ite (fun _ => ?_) (fun _ => ?_)
theorem MdcodeEscapes : indenturelaw20_MdcodeEscapes.Pure := by
  intro a0 h0
  refine Ev.rounds ?_
  unfold indenturelaw20_MdcodeEscapes.f
  by_cases c : (a0.size : Int) > 500
  · exact ev_pos c (Ev.now _)
  · exact ev_neg c (esc_loop a0 (by omega) a0.size 0 [] (by omega) (by omega) rfl (fun c hc => by cases hc))
end Go.Proofs.YtodgioleaegpfaaDoor.Pure
