/- Plain lemmas: where the answers of Read, Dest, Title, Skip lie, and the head of a line read in place of the line; the law Defs. -/
import Derived.Test.YtlmhdiienpebfaaLibE
import Derived.Test.YtlmhdiienpebfaaPx10
namespace Go.Proofs.Ytlmhdiienpebfaa.Pure
open Go.RowKit Go.Proofs.Ytlmhdiienpebfaa.P Go.Proofs.YtlmhdiienpebfaaW.PrintWords Go.Proofs.YtlmhdiienpebfaaW.PrintLast
set_option linter.unusedVariables false
set_option linter.unusedSimpArgs false

theorem wth_open {t : ByteArray} {c : Int} {b : Int → Bool} {m : Nat} (h : wth t c b = some m) : 2 ≤ m ∧ m ≤ t.size ∧ bt t ((m - 1 : Nat) : Int) = c := by
  obtain ⟨h1, h2, h3⟩ := wth_ge h
  refine ⟨h1, h2, ?_⟩
  unfold qc at h3
  simp only [Bool.and_eq_true, beq_iff_eq] at h3
  exact h3.1
theorem rd_facts (t : ByteArray) (a : Nat) : rdS t a = (0, false) ∨ ∃ m : Nat, rdS t a = (((a + m : Nat) : Int), true) ∧ 3 ≤ m ∧ m ≤ t.size ∧ m ≤ 202 ∧ bt t 0 = 91 ∧ bt t ((m - 1 : Nat) : Int) = 93 := by
  unfold rdS
  by_cases h : bt t 0 = 91
  · rw [if_pos h]
    cases hw : wth t 93 (fun x => x == 91) with
    | none => exact .inl rfl
    | some m =>
      dsimp only
      obtain ⟨h1, h2, h3⟩ := wth_open hw
      by_cases hm : m > 202
      · rw [if_pos hm]; exact .inl rfl
      · rw [if_neg hm]
        by_cases he : (foldS (t.extract 1 (m - 1))).toList = ([] : List UInt8)
        · rw [if_pos he]; exact .inl rfl
        · rw [if_neg he]
          refine .inr ⟨m, rfl, ?_, h2, by omega, h, h3⟩
          rcases Nat.lt_or_ge 2 m with h' | h'
          · exact h'
          · exfalso; apply he
            obtain rfl : m = 2 := by omega
            have : t.extract 1 (2 - 1) = ⟨#[]⟩ := by apply ext_list; rw [extract_list]; simp
            rw [this, empty_iff]; rfl
  · rw [if_neg h]; exact .inl rfl
theorem ds_facts (t : ByteArray) (a : Nat) : dsS t a = (0, false) ∨ ∃ m : Nat, dsS t a = (((a + m : Nat) : Int), true) ∧ 1 ≤ m ∧ m ≤ t.size ∧ blankI (bt t ((m - 1 : Nat) : Int)) = false ∧ (bt t 0 = 60 → bt t ((m - 1 : Nat) : Int) = 62) := by
  unfold dsS
  by_cases h : bt t 0 = 60
  · rw [if_pos h]
    cases hw : wth t 62 (fun x => x == 60) with
    | none => exact .inl rfl
    | some m =>
      dsimp only
      obtain ⟨h1, h2, h3⟩ := wth_open hw
      exact .inr ⟨m, rfl, by omega, h2, by rw [h3]; rfl, fun _ => h3⟩
  · rw [if_neg h]
    obtain ⟨p1, p2, p3, p4⟩ := far_prop (q := fun i => decide (bt t (i : Int) > 32) && bt t (i : Int) != 127) t.size 0
    generalize far (fun i => decide (bt t (i : Int) > 32) && bt t (i : Int) != 127) t.size 0 = m at p1 p2 p3 p4 ⊢
    by_cases h0 : m = 0
    · rw [if_pos h0]; exact .inl rfl
    · rw [if_neg h0]
      refine .inr ⟨m, rfl, by omega, by omega, ?_, fun e => absurd e h⟩
      have := p3 (m - 1) (by omega) (by omega)
      simp only [Bool.and_eq_true, decide_eq_true_eq] at this
      unfold blankI
      have h1 := this.1
      simp
      omega
theorem ti_facts (t : ByteArray) (a : Nat) : tiS t a = (0, false) ∨ ∃ m : Nat, tiS t a = (((a + m : Nat) : Int), true) ∧ 2 ≤ m ∧ m ≤ t.size ∧ (bt t 0 = 40 → bt t ((m - 1 : Nat) : Int) = 41) ∧ (bt t 0 ≠ 40 → bt t ((m - 1 : Nat) : Int) = bt t 0) := by
  unfold tiS
  by_cases h : bt t 0 = 34 ∨ bt t 0 = 39
  · rw [if_pos h]
    cases hw : wth t (bt t 0) (fun _ => false) with
    | none => exact .inl rfl
    | some m =>
      obtain ⟨h1, h2, h3⟩ := wth_open hw
      exact .inr ⟨m, rfl, by omega, h2, fun e => by omega, fun _ => h3⟩
  · rw [if_neg h]
    by_cases h4 : bt t 0 = 40
    · rw [if_pos h4]
      cases hw : wth t 41 (fun x => x == 40) with
      | none => exact .inl rfl
      | some m =>
        obtain ⟨h1, h2, h3⟩ := wth_open hw
        exact .inr ⟨m, rfl, by omega, h2, fun _ => h3, fun e => absurd h4 e⟩
    · rw [if_neg h4]; exact .inl rfl
theorem sk_facts (t : ByteArray) (a : Nat) : ∃ m : Nat, skS t a = ((a + m : Nat) : Int) ∧ m ≤ t.size ∧ (∀ i : Nat, i < m → blankI (bt t (i : Int)) = true) ∧ (m < t.size → blankI (bt t (m : Int)) = false) := by
  unfold skS
  obtain ⟨p1, p2, p3, p4⟩ := far_prop (q := fun i => blankI (bt t (i : Int))) t.size 0
  exact ⟨_, rfl, by omega, fun i hi => p3 i (by omega) hi, fun h => p4 (by omega)⟩

/-- The head of a line, ahead of E bytes that hold no line break, cuts as the line cut at E. -/
theorem cut_head (line : ByteArray) (x y z : Int) (E : Nat) (hE : E ≤ endN line) (hy : mn y (endN line) = (E : Int)) (hz : (E : Int) ≤ z) (h : 0 ≤ x ∧ x < (E : Int)) :
    ∃ t a, Cut line x y t a ∧ Cut (line.extract 0 E) x z t a := by
  have hle := endN_le line
  obtain ⟨t, a, c⟩ := cut_of line x y (by omega)
  have hs := size_ext line 0 E (by omega)
  have he := endN_ext line E hE
  have hm : mn z (endN (line.extract 0 E) : Int) = (E : Int) := by rw [he]; unfold mn; split <;> omega
  refine ⟨t, a, c, c.hx, by rw [hm]; exact h, ?_, ?_, c.pos, by rw [hm, ← hy]; exact c.end_⟩
  · rw [hm]
    have := c.eq
    rw [hy] at this
    rw [← this, ext_ext line 0 E _ _ (by omega) (by omega), Nat.zero_add, Nat.zero_add]
  · refine ⟨?_, fun i hi => ?_⟩
    · have := c.end_; omega
    · have := c.end_
      rw [bt_ext line 0 E _ (by omega) (by omega), Nat.zero_add]
      exact c.part.by_ i hi

structure Four (line s : ByteArray) (E : Nat) (x : Int) : Prop where
  rd : ∃ r, Ev (fun k => mdlabel_Read.f k s x E) r ∧ Ev (fun k => indentureref17_Read.f k line x E) r ∧ (r = (0, false) ∨ (r.2 = true ∧ 0 ≤ x ∧ x + 3 ≤ r.1 ∧ r.1 ≤ E))
  ds : ∃ r, Ev (fun k => mdlabel_Dest.f k s x E) r ∧ Ev (fun k => indentureref17_Dest.f k line x E) r ∧ (r = (0, false) ∨ (r.2 = true ∧ 0 ≤ x ∧ x + 1 ≤ r.1 ∧ r.1 ≤ E))
  ti : ∃ r, Ev (fun k => mdlabel_Title.f k s x E) r ∧ Ev (fun k => indentureref17_Title.f k line x E) r ∧ (r = (0, false) ∨ (r.2 = true ∧ 0 ≤ x ∧ x + 2 ≤ r.1 ∧ r.1 ≤ E))
  sk : ∃ r, Ev (fun k => mdlabel_Skip.f k s x E) r ∧ Ev (fun k => indentureref17_Skip.f k line x E) r ∧ x ≤ r ∧ (x ≤ E → r ≤ E)
theorem four_of (line : ByteArray) (hl : line.size ≤ 4294967296) (x : Int) : Four line (line.extract 0 (endN line)) (endN line) x := by
  have hle := endN_le line
  have hs := size_ext line 0 (endN line) (by omega)
  have hl' : (line.extract 0 (endN line)).size ≤ 4294967296 := by omega
  have he := endN_ext line (endN line) (Nat.le_refl _)
  have hm : mn (endN line : Int) (endN line : Int) = (endN line : Int) := by unfold mn; split <;> omega
  by_cases h : 0 ≤ x ∧ x < (endN line : Int)
  · obtain ⟨t, a, c, d⟩ := cut_head line x (endN line) (endN line) (endN line) (Nat.le_refl _) hm (by omega) h
    have hx := c.hx
    have hen := c.end_
    rw [hm] at hen
    refine ⟨⟨_, read_p_in _ hl' _ _ d, read_r_in _ hl _ _ c, ?_⟩, ⟨_, dest_p_in _ hl' _ _ d, dest_r_in _ hl _ _ c, ?_⟩, ⟨_, title_p_in _ hl' _ _ d, title_r_in _ hl _ _ c, ?_⟩, ⟨_, skip_p_in _ hl' _ _ d, skip_r_in _ hl _ _ c, ?_⟩⟩
    · rcases rd_facts t a with h | ⟨m, h, _⟩
      · exact .inl h
      · rw [h]; exact .inr ⟨rfl, by omega, by simp only; omega, by simp only; omega⟩
    · rcases ds_facts t a with h | ⟨m, h, _⟩
      · exact .inl h
      · rw [h]; exact .inr ⟨rfl, by omega, by simp only; omega, by simp only; omega⟩
    · rcases ti_facts t a with h | ⟨m, h, _⟩
      · exact .inl h
      · rw [h]; exact .inr ⟨rfl, by omega, by simp only; omega, by simp only; omega⟩
    · obtain ⟨m, h, _⟩ := sk_facts t a
      rw [h]; omega
  · have h1 : ¬ (0 ≤ x ∧ x < mn (endN line : Int) (endN line)) := by rw [hm]; exact h
    have h2 : ¬ (0 ≤ x ∧ x < mn (endN line : Int) (endN (line.extract 0 (endN line)))) := by rw [he, hm]; exact h
    exact ⟨⟨_, read_p_out _ hl' _ _ h2, read_r_out _ hl _ _ h1, .inl rfl⟩, ⟨_, dest_p_out _ hl' _ _ h2, dest_r_out _ hl _ _ h1, .inl rfl⟩, ⟨_, title_p_out _ hl' _ _ h2, title_r_out _ hl _ _ h1, .inl rfl⟩, ⟨_, skip_p_out _ hl' _ _ h2, skip_r_out _ hl _ _ h1, by omega⟩⟩

theorem def_both (line : ByteArray) (hl : line.size ≤ 4294967295) (x : Int) (hx : (Lit.int .i64 x).wf = true) :
    ∃ r, Ev (fun k => mdlabel_Def.f k line x) r ∧ Ev (fun k => indentureref17_Def.f k line x) r := by
  have hle := endN_le line
  have hs := size_ext line 0 (endN line) (by omega)
  have hsE : (((line.extract 0 (endN line)).size : Nat) : Int) = (endN line : Int) := by omega
  obtain ⟨⟨r1, p1, q1, f1⟩, _, _, _⟩ := four_of line (by omega) x
  suffices H : ∃ r, Ev (fun k => if r1.2 = true then (if r1.1 ≥ ((endN line : Nat) : Int) then (mdlabel_Def.j0 k x (line.extract 0 (endN line)) r1.1 true) else (if 0 ≤ r1.1 then (if r1.1 < ((endN line : Nat) : Int) then (mdlabel_Def.j0 k x (line.extract 0 (endN line)) r1.1 ((bt (line.extract 0 (endN line)) r1.1) != 58)) else (none)) else (none))) else (mdlabel_Def.j0 k x (line.extract 0 (endN line)) r1.1 true)) r ∧
      Ev (fun k => if r1.2 = true then (if r1.1 ≥ ((endN line : Nat) : Int) then (indentureref17_Def.j0 k line x (endN line) r1.1 true) else (if 0 ≤ r1.1 then (if r1.1 < (line.size : Int) then (indentureref17_Def.j0 k line x (endN line) r1.1 ((bt line r1.1) != 58)) else (none)) else (none))) else (indentureref17_Def.j0 k line x (endN line) r1.1 true)) r by
    obtain ⟨r, h1, h2⟩ := H
    refine ⟨r, ?_, ?_⟩
    · refine Ev.congr (f := fun k => (mdlabel_Read.f k (line.extract 0 (endN line)) x (endN line)).bind fun bt149 => (if bt149.2 = true then (if bt149.1 ≥ ((endN line : Nat) : Int) then (mdlabel_Def.j0 k x (line.extract 0 (endN line)) bt149.1 true) else (if 0 ≤ bt149.1 then (if bt149.1 < ((endN line : Nat) : Int) then (mdlabel_Def.j0 k x (line.extract 0 (endN line)) bt149.1 ((bt (line.extract 0 (endN line)) bt149.1) != 58)) else (none)) else (none))) else (mdlabel_Def.j0 k x (line.extract 0 (endN line)) bt149.1 true))) (fun k => ?_) (Ev.bind p1 h1)
      unfold mdlabel_Def.f
      rw [ahead_val line (by omega), Option.bind_some, hsE]
    · exact Ev.bind (end_val line (by omega)) (Ev.bind q1 h2)
  have stop : ∃ r, Ev (fun k => mdlabel_Def.j0 k x (line.extract 0 (endN line)) r1.1 true) r ∧ Ev (fun k => indentureref17_Def.j0 k line x (endN line) r1.1 true) r :=
    ⟨(⟨#[]⟩, 0, false), Ev.step (fun k => by rw [mdlabel_Def.j0, if_pos rfl]) (Ev.now _), Ev.step (fun k => by rw [indentureref17_Def.j0, if_pos rfl]) (Ev.now _)⟩
  rcases f1 with f1 | ⟨g1, g2, g3, g4⟩
  · obtain ⟨r, s1, s2⟩ := stop
    exact ⟨r, ev_neg (by rw [f1]; decide) s1, ev_neg (by rw [f1]; decide) s2⟩
  by_cases hge : r1.1 ≥ ((endN line : Nat) : Int)
  · obtain ⟨r, s1, s2⟩ := stop
    exact ⟨r, ev_pos g1 (ev_pos hge s1), ev_pos g1 (ev_pos hge s2)⟩
  have hbt : bt (line.extract 0 (endN line)) r1.1 = bt line r1.1 := by
    have := bt_ext line 0 (endN line) r1.1.toNat (by omega) (by omega)
    rw [Nat.zero_add] at this
    rw [show r1.1 = ((r1.1.toNat : Nat) : Int) by omega]
    exact this
  suffices H : ∃ r, Ev (fun k => mdlabel_Def.j0 k x (line.extract 0 (endN line)) r1.1 ((bt line r1.1) != 58)) r ∧ Ev (fun k => indentureref17_Def.j0 k line x (endN line) r1.1 ((bt line r1.1) != 58)) r by
    obtain ⟨r, h1, h2⟩ := H
    exact ⟨r, ev_pos g1 (ev_neg hge (ev_pos (by omega) (ev_pos (by omega) (by rw [hbt]; exact h1)))), ev_pos g1 (ev_neg hge (ev_pos (by omega) (ev_pos (by omega) h2)))⟩
  by_cases hc : bt line r1.1 = 58
  · have e : (bt line r1.1 != 58) = false := by rw [hc]; rfl
    rw [e]
    have w1 : wrap64 (x + 1) = x + 1 := w64 (by omega) (by omega)
    have w2 : wrap64 (r1.1 - 1) = r1.1 - 1 := w64 (by omega) (by omega)
    have w3 : wrap64 (r1.1 + 1) = r1.1 + 1 := w64 (by omega) (by omega)
    have hx2 : (line.extract 0 (endN line)).extract (x + 1).toNat (r1.1 - 1).toNat = line.extract (x + 1).toNat (r1.1 - 1).toNat := by
      rw [ext_ext line 0 (endN line) _ _ (by omega) (by omega), Nat.zero_add, Nat.zero_add]
    have hsx := size_ext line (x + 1).toNat (r1.1 - 1).toNat (by omega)
    have hfold := fold_val (line.extract (x + 1).toNat (r1.1 - 1).toNat) (by omega)
    have hrfold := rfold_val (line.extract (x + 1).toNat (r1.1 - 1).toNat) (by omega)
    obtain ⟨_, _, _, ⟨r2, p2, q2, f2, f2'⟩⟩ := four_of line (by omega) (r1.1 + 1)
    have f2' := f2' (by omega)
    obtain ⟨_, ⟨r3, p3, q3, f3⟩, _, _⟩ := four_of line (by omega) r2
    suffices H : ∃ r, Ev (fun k => if r3.2 = true then ((mdlabel_Skip.f k (line.extract 0 (endN line)) r3.1 (endN line)).bind fun t155 => (if t155 = (endN line : Int) then (some (foldS (line.extract (x + 1).toNat (r1.1 - 1).toNat), r3.1, true)) else ((mdlabel_Title.f k (line.extract 0 (endN line)) t155 (endN line)).bind fun bt156 => (if bt156.2 = true then (if t155 = r3.1 then (some ((⟨#[]⟩ : ByteArray), 0, false)) else ((mdlabel_Skip.f k (line.extract 0 (endN line)) bt156.1 (endN line)).bind fun t158 => (if t158 = (endN line : Int) then (some (foldS (line.extract (x + 1).toNat (r1.1 - 1).toNat), bt156.1, true)) else (some ((⟨#[]⟩ : ByteArray), 0, false))))) else (some ((⟨#[]⟩ : ByteArray), 0, false)))))) else (some ((⟨#[]⟩ : ByteArray), 0, false))) r ∧
        Ev (fun k => if r3.2 = true then ((indentureref17_Skip.f k line r3.1 (endN line)).bind fun t208 => (if t208 ≥ (endN line : Int) then (some (foldS (line.extract (x + 1).toNat (r1.1 - 1).toNat), r3.1, true)) else ((indentureref17_Title.f k line t208 (endN line)).bind fun bt209 => (if bt209.2 = true then (if t208 = r3.1 then (some ((⟨#[]⟩ : ByteArray), 0, false)) else ((indentureref17_Skip.f k line bt209.1 (endN line)).bind fun t211 => (if t211 < (endN line : Int) then (some ((⟨#[]⟩ : ByteArray), 0, false)) else (some (foldS (line.extract (x + 1).toNat (r1.1 - 1).toNat), bt209.1, true))))) else (some ((⟨#[]⟩ : ByteArray), 0, false)))))) else (some ((⟨#[]⟩ : ByteArray), 0, false))) r by
      obtain ⟨r, h1, h2⟩ := H
      refine ⟨r, ?_, ?_⟩
      · refine Ev.step (f := fun k => (mdlabel_Skip.f k (line.extract 0 (endN line)) (r1.1 + 1) (endN line)).bind fun t152 => (mdlabel_Dest.f k (line.extract 0 (endN line)) t152 (endN line)).bind fun bt153 => if bt153.2 = true then ((mdlabel_Skip.f k (line.extract 0 (endN line)) bt153.1 (endN line)).bind fun t155 => (if t155 = (endN line : Int) then (some (foldS (line.extract (x + 1).toNat (r1.1 - 1).toNat), bt153.1, true)) else ((mdlabel_Title.f k (line.extract 0 (endN line)) t155 (endN line)).bind fun bt156 => (if bt156.2 = true then (if t155 = bt153.1 then (some ((⟨#[]⟩ : ByteArray), 0, false)) else ((mdlabel_Skip.f k (line.extract 0 (endN line)) bt156.1 (endN line)).bind fun t158 => (if t158 = (endN line : Int) then (some (foldS (line.extract (x + 1).toNat (r1.1 - 1).toNat), bt156.1, true)) else (some ((⟨#[]⟩ : ByteArray), 0, false))))) else (some ((⟨#[]⟩ : ByteArray), 0, false)))))) else (some ((⟨#[]⟩ : ByteArray), 0, false))) (fun k => ?_) (Ev.bind p2 (Ev.bind p3 h1))
        rw [mdlabel_Def.j0, if_neg (by simp), w1, w2, w3, if_pos (by omega), if_pos (by omega), if_pos (by omega), hx2, hfold, Option.bind_some, hsE]
      · refine Ev.step (f := fun k => (indentureref17_Fold.f k (line.extract (x + 1).toNat (r1.1 - 1).toNat)).bind fun t204 => (indentureref17_Skip.f k line (r1.1 + 1) (endN line)).bind fun t205 => ((indentureref17_Dest.f k line t205 (endN line)).bind fun bt206 => (if bt206.2 = true then ((indentureref17_Skip.f k line bt206.1 (endN line)).bind fun t208 => (if t208 ≥ (endN line : Int) then (some (t204, bt206.1, true)) else ((indentureref17_Title.f k line t208 (endN line)).bind fun bt209 => (if bt209.2 = true then (if t208 = bt206.1 then (some ((⟨#[]⟩ : ByteArray), 0, false)) else ((indentureref17_Skip.f k line bt209.1 (endN line)).bind fun t211 => (if t211 < (endN line : Int) then (some ((⟨#[]⟩ : ByteArray), 0, false)) else (some (t204, bt209.1, true))))) else (some ((⟨#[]⟩ : ByteArray), 0, false)))))) else (some ((⟨#[]⟩ : ByteArray), 0, false))))) (fun k => ?_) (Ev.bind hrfold (Ev.bind q2 (Ev.bind q3 h2)))
        rw [indentureref17_Def.j0, if_neg (by simp), w1, w2, w3, if_pos (by omega), if_pos (by omega), if_pos (by omega)]
    rcases f3 with f3 | ⟨f3, f3a, f3b, f3c⟩
    · exact ⟨_, ev_neg (by rw [f3]; decide) (Ev.now _), ev_neg (by rw [f3]; decide) (Ev.now _)⟩
    obtain ⟨_, _, _, ⟨r4, p4, q4, f4, f4'⟩⟩ := four_of line (by omega) r3.1
    have f4' := f4' (by omega)
    by_cases h4 : r4 = (endN line : Int)
    · exact ⟨_, ev_pos f3 (Ev.bind p4 (ev_pos h4 (Ev.now _))), ev_pos f3 (Ev.bind q4 (ev_pos (by omega) (Ev.now _)))⟩
    obtain ⟨_, _, ⟨r5, p5, q5, f5⟩, _⟩ := four_of line (by omega) r4
    rcases f5 with f5 | ⟨f5, f5a, f5b, f5c⟩
    · exact ⟨_, ev_pos f3 (Ev.bind p4 (ev_neg h4 (Ev.bind p5 (ev_neg (by rw [f5]; decide) (Ev.now _))))), ev_pos f3 (Ev.bind q4 (ev_neg (by omega) (Ev.bind q5 (ev_neg (by rw [f5]; decide) (Ev.now _)))))⟩
    by_cases h5 : r4 = r3.1
    · exact ⟨_, ev_pos f3 (Ev.bind p4 (ev_neg h4 (Ev.bind p5 (ev_pos f5 (ev_pos h5 (Ev.now _)))))), ev_pos f3 (Ev.bind q4 (ev_neg (by omega) (Ev.bind q5 (ev_pos f5 (ev_pos h5 (Ev.now _))))))⟩
    obtain ⟨_, _, _, ⟨r6, p6, q6, f6, f6'⟩⟩ := four_of line (by omega) r5.1
    have f6' := f6' (by omega)
    by_cases h6 : r6 = (endN line : Int)
    · exact ⟨_, ev_pos f3 (Ev.bind p4 (ev_neg h4 (Ev.bind p5 (ev_pos f5 (ev_neg h5 (Ev.bind p6 (ev_pos h6 (Ev.now _)))))))), ev_pos f3 (Ev.bind q4 (ev_neg (by omega) (Ev.bind q5 (ev_pos f5 (ev_neg h5 (Ev.bind q6 (ev_neg (by omega) (Ev.now _))))))))⟩
    · exact ⟨_, ev_pos f3 (Ev.bind p4 (ev_neg h4 (Ev.bind p5 (ev_pos f5 (ev_neg h5 (Ev.bind p6 (ev_neg h6 (Ev.now _)))))))), ev_pos f3 (Ev.bind q4 (ev_neg (by omega) (Ev.bind q5 (ev_pos f5 (ev_neg h5 (Ev.bind q6 (ev_pos (by omega) (Ev.now _))))))))⟩
  · have e : (bt line r1.1 != 58) = true := by simpa using hc
    rw [e]; exact stop

theorem MdlabelDefs : indenturelaw17_MdlabelDefs.Pure := by
  intro s x hs hx
  refine Ev.rounds ?_
  unfold indenturelaw17_MdlabelDefs.f
  by_cases hb : (s.size : Int) > 500
  · exact ev_pos hb (Ev.now _)
  obtain ⟨r, p, q⟩ := def_both s (by omega) x hx
  have e3 : (r.2.2 == r.2.2) = true := by cases r.2.2 <;> rfl
  exact ev_neg hb (Ev.bind p (Ev.bind q (ev_pos rfl (ev_pos rfl (ev_pos e3 reads_end)))))
end Go.Proofs.Ytlmhdiienpebfaa.Pure
