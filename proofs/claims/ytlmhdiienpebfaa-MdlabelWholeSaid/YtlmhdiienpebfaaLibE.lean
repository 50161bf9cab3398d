/- Plain lemmas: the closed reading, and the laws Folds and Reads out of the one answer of both sides. -/
import Derived.Test.YtlmhdiienpebfaaLibD
import Derived.Test.YtlmhdiienpebfaaPx9
namespace Go.Proofs.Ytlmhdiienpebfaa.Pure
open Go.RowKit Go.Proofs.Ytlmhdiienpebfaa.P Go.Proofs.YtlmhdiienpebfaaW.PrintWords Go.Proofs.YtlmhdiienpebfaaW.PrintLast
set_option linter.unusedVariables false
set_option linter.unusedSimpArgs false

theorem reads_at : indenturelaw17_reads.f 30 = some true := by kernel_rfl
theorem reads_ev : Ev (fun k => indenturelaw17_reads.f k) true := Ev.of (fun k => indenturelaw17_reads.mono k) reads_at
theorem reads_end : Ev (fun k => (indenturelaw17_reads.f k).bind fun t => some t) true := Ev.bind reads_ev (Ev.now _)
theorem MdlabelFolds : indenturelaw17_MdlabelFolds.Pure := by
  intro s hs
  refine Ev.rounds ?_
  unfold indenturelaw17_MdlabelFolds.f
  by_cases hb : (s.size : Int) > 20000
  · exact ev_pos hb (Ev.now _)
  refine ev_neg hb ?_
  refine Ev.congr (fun k => by rw [fold_val s (by omega), Option.bind_some]) ?_
  exact Ev.bind (rfold_val s (by omega)) (ev_pos rfl reads_end)

theorem both_read (line : ByteArray) (hl : line.size ≤ 4294967296) (x y : Int) : ∃ r, Ev (fun k => mdlabel_Read.f k line x y) r ∧ Ev (fun k => indentureref17_Read.f k line x y) r := by
  by_cases h : 0 ≤ x ∧ x < mn y (endN line)
  · obtain ⟨t, a, c⟩ := cut_of line x y h
    exact ⟨_, read_p_in line hl x y c, read_r_in line hl x y c⟩
  · exact ⟨_, read_p_out line hl x y h, read_r_out line hl x y h⟩
theorem both_dest (line : ByteArray) (hl : line.size ≤ 4294967296) (x y : Int) : ∃ r, Ev (fun k => mdlabel_Dest.f k line x y) r ∧ Ev (fun k => indentureref17_Dest.f k line x y) r := by
  by_cases h : 0 ≤ x ∧ x < mn y (endN line)
  · obtain ⟨t, a, c⟩ := cut_of line x y h
    exact ⟨_, dest_p_in line hl x y c, dest_r_in line hl x y c⟩
  · exact ⟨_, dest_p_out line hl x y h, dest_r_out line hl x y h⟩
theorem both_title (line : ByteArray) (hl : line.size ≤ 4294967296) (x y : Int) : ∃ r, Ev (fun k => mdlabel_Title.f k line x y) r ∧ Ev (fun k => indentureref17_Title.f k line x y) r := by
  by_cases h : 0 ≤ x ∧ x < mn y (endN line)
  · obtain ⟨t, a, c⟩ := cut_of line x y h
    exact ⟨_, title_p_in line hl x y c, title_r_in line hl x y c⟩
  · exact ⟨_, title_p_out line hl x y h, title_r_out line hl x y h⟩
theorem both_skip (line : ByteArray) (hl : line.size ≤ 4294967296) (x y : Int) : ∃ r, Ev (fun k => mdlabel_Skip.f k line x y) r ∧ Ev (fun k => indentureref17_Skip.f k line x y) r := by
  by_cases h : 0 ≤ x ∧ x < mn y (endN line)
  · obtain ⟨t, a, c⟩ := cut_of line x y h
    exact ⟨_, skip_p_in line hl x y c, skip_r_in line hl x y c⟩
  · exact ⟨_, skip_p_out line hl x y h, skip_r_out line hl x y h⟩
theorem MdlabelReads : indenturelaw17_MdlabelReads.Pure := by
  intro s x y hs hx hy
  refine Ev.rounds ?_
  unfold indenturelaw17_MdlabelReads.f
  by_cases hb : (s.size : Int) > 500
  · exact ev_pos hb (Ev.now _)
  refine ev_neg hb ?_
  obtain ⟨r1, p1, q1⟩ := both_read s (by omega) x y
  obtain ⟨r2, p2, q2⟩ := both_dest s (by omega) x y
  obtain ⟨r3, p3, q3⟩ := both_title s (by omega) x y
  obtain ⟨r4, p4, q4⟩ := both_skip s (by omega) x y
  refine Ev.bind p1 (Ev.bind q1 (ev_pos rfl ?_))
  have e1 : (r1.2 != r1.2) = false := by cases r1.2 <;> rfl
  have e2 : (r2.2 != r2.2) = false := by cases r2.2 <;> rfl
  have e3 : (r3.2 == r3.2) = true := by cases r3.2 <;> rfl
  rw [e1]
  refine Ev.step (fun k => by rw [indenturelaw17_MdlabelReads.j0]) (ev_neg (by simp) ?_)
  refine Ev.bind p2 (Ev.bind q2 (ev_pos rfl ?_))
  rw [e2]
  refine Ev.step (fun k => by rw [indenturelaw17_MdlabelReads.j1]) (ev_neg (by simp) ?_)
  refine Ev.bind p3 (Ev.bind q3 (ev_pos rfl (ev_pos e3 ?_)))
  exact Ev.bind p4 (Ev.bind q4 (ev_pos rfl reads_end))
end Go.Proofs.Ytlmhdiienpebfaa.Pure
