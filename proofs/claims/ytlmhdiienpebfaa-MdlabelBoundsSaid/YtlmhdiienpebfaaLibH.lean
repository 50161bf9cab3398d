/- Plain lemmas: the law Bounds out of the answers' facts. -/
import Derived.Test.YtlmhdiienpebfaaLibF
import Derived.Test.YtlmhdiienpebfaaPx14
namespace Go.Proofs.Ytlmhdiienpebfaa.Pure
open Go.RowKit Go.Proofs.Ytlmhdiienpebfaa.P Go.Proofs.YtlmhdiienpebfaaW.PrintWords Go.Proofs.YtlmhdiienpebfaaW.PrintLast
set_option linter.unusedVariables false
set_option linter.unusedSimpArgs false
set_option linter.unusedSectionVars false

theorem cut_head_of {line : ByteArray} {x y : Int} {t : ByteArray} {a : Nat} (c : Cut line x y t a) (z : Int) (E : Nat) (hy : mn y (endN line) = (E : Int)) (hz : (E : Int) ≤ z) :
    Cut (line.extract 0 E) x z t a := by
  have hle : mn y (endN line) ≤ (endN line : Int) := by unfold mn; split <;> omega
  have hi := c.ins
  obtain ⟨t', a', c', d⟩ := cut_head line x y z E (by omega) hy hz (by rw [← hy]; exact hi)
  have h1 : t' = t := c'.eq.symm.trans c.eq
  have h2 : a' = a := by have := c'.hx; have := c.hx; omega
  rw [← h1, ← h2]; exact d

section
variable (s : ByteArray) (hs : s.size ≤ 500) (x y : Int) {t : ByteArray} {a : Nat} (c : Cut s x y t a)
include hs c

theorem bt_at (i : Nat) (h : i < t.size) : bt s ((a + i : Nat) : Int) = bt t (i : Int) := c.part.by_ i h

theorem bounds_end (m : Nat) : Ev (fun k => indenturelaw17_MdlabelBounds.l0 k s x (mn y (endN s)) (rdS t a).1 (tiS t a).1 ((a + m : Nat) : Int) ((a + m : Nat) : Int)) true := by
  have hsz := c.part.sz
  have he := c.end_
  have hle := endN_le s
  have hsE := size_ext s 0 (a + t.size) (by omega)
  have d := cut_head_of c ((a + t.size : Nat) : Int) (a + t.size) he (Int.le_refl _)
  have d9 := cut_head_of c (wrap64 (((a + t.size : Nat) : Int) + 9)) (a + t.size) he (by rw [w64 (by omega) (by omega)]; omega)
  have e1 := read_p_in (s.extract 0 (a + t.size)) (by omega) _ _ d
  have e2 := title_p_in (s.extract 0 (a + t.size)) (by omega) _ _ d9
  have f1 : ((rdS t a).2 != ((rdS t a).1 != 0)) = false := by
    rcases rd_facts t a with h | ⟨m, h, _⟩
    · rw [h]; decide
    · rw [h]; simp; omega
  have f2 : ((tiS t a).2 != ((tiS t a).1 != 0)) = false := by
    rcases ti_facts t a with h | ⟨m, h, _⟩
    · rw [h]; decide
    · rw [h]; simp; omega
  rw [he]
  refine Ev.step (f := fun k => (mdlabel_Read.f k (s.extract 0 (a + t.size)) x ((a + t.size : Nat) : Int)).bind fun bt301 => (mdlabel_Title.f k (s.extract 0 (a + t.size)) x (wrap64 (((a + t.size : Nat) : Int) + 9))).bind fun bt303 => (if bt301.1 = (rdS t a).1 then (if (bt301.2 != ((rdS t a).1 != 0)) = true then (some false) else (if bt303.1 = (tiS t a).1 then (if (bt303.2 != ((tiS t a).1 != 0)) = true then (some false) else ((indenturelaw17_reads.f k).bind fun t305 => (some t305))) else (some false))) else (some false))) (fun k => ?_) ?_
  · rw [indenturelaw17_MdlabelBounds.l0, if_neg (by omega), if_pos (by omega), if_pos (by omega), Int.toNat_natCast]
  · exact Ev.bind e1 (Ev.bind e2 (ev_pos rfl (ev_neg (by rw [f1]; simp) (ev_pos rfl (ev_neg (by rw [f2]; simp) reads_end)))))
theorem bounds_loop (m : Nat) (hm : m ≤ t.size) (hb : ∀ i : Nat, i < m → blankI (bt t (i : Int)) = true) : ∀ (n i : Nat), i + n = m →
    Ev (fun k => indenturelaw17_MdlabelBounds.l0 k s x (mn y (endN s)) (rdS t a).1 (tiS t a).1 ((a + m : Nat) : Int) ((a + i : Nat) : Int)) true
  | 0, i, h => by
    obtain rfl : i = m := by omega
    exact bounds_end s hs x y c i
  | n + 1, i, h => by
    have hsz := c.part.sz
    have hbt := bt_at s hs x y c i (by omega)
    refine Ev.step (fun k => ?_) (bounds_loop m hm hb n (i + 1) (by omega))
    rw [indenturelaw17_MdlabelBounds.l0, if_pos (by omega), if_pos (by omega), if_pos (by omega), blank_val, Option.bind_some, hbt, hb i (by omega), if_pos rfl, w64 (by omega) (by omega)]
    rfl
theorem bounds_j2 : Ev (fun k => indenturelaw17_MdlabelBounds.j2 k s x y (mn y (endN s)) (rdS t a).1 (tiS t a).1 false) true := by
  obtain ⟨m, h1, h2, h3, h4⟩ := sk_facts t a
  have hx := c.hx
  have hi := c.ins
  have he := c.end_
  have hsz := c.part.sz
  have hv := skip_p_in s (by omega) x y c
  rw [h1] at hv
  have hl := bounds_loop s hs x y c m h2 h3 m 0 (by omega)
  rw [Nat.add_zero, ← hx] at hl
  refine Ev.step (f := fun k => (mdlabel_Skip.f k s x y).bind fun t298 => (if x ≥ 0 then (indenturelaw17_MdlabelBounds.j3 k s x (mn y (endN s)) (rdS t a).1 (tiS t a).1 t298 (decide (x < (mn y (endN s))))) else (indenturelaw17_MdlabelBounds.j3 k s x (mn y (endN s)) (rdS t a).1 (tiS t a).1 t298 false))) (fun k => by rw [indenturelaw17_MdlabelBounds.j2, if_neg (by simp)]) ?_
  refine Ev.bind hv (ev_pos hi.1 ?_)
  rw [decide_eq_true hi.2]
  refine Ev.step (f := fun k => indenturelaw17_MdlabelBounds.j4 k s x (mn y (endN s)) (rdS t a).1 (tiS t a).1 ((a + m : Nat) : Int) false) (fun k => ?_) (Ev.step (fun k => by rw [indenturelaw17_MdlabelBounds.j4, if_neg (by simp)]) hl)
  rw [indenturelaw17_MdlabelBounds.j3, if_pos rfl, if_neg (by omega), if_neg (by omega)]
  by_cases hlt : m < t.size
  · rw [if_pos (by omega), if_pos (by omega), if_pos (by omega), blank_val, Option.bind_some, bt_at s hs x y c m hlt, h4 hlt]
  · rw [if_neg (by omega)]
theorem bounds_j1 : Ev (fun k => indenturelaw17_MdlabelBounds.j1 k s x y (mn y (endN s)) (rdS t a).1 false) true := by
  have hx := c.hx
  have hi := c.ins
  have he := c.end_
  have hsz := c.part.sz
  have hv := title_p_in s (by omega) x y c
  have nx := bounds_j2 s hs x y c
  have hb0 : bt s x = bt t 0 := by
    have h0 := bt_at s hs x y c 0 c.pos
    rw [Nat.add_zero, ← hx] at h0
    exact h0
  rcases ti_facts t a with h | ⟨m, h, h2, h3, h4, h5⟩
  · rw [h] at hv nx
    refine Ev.step (fun k => by rw [indenturelaw17_MdlabelBounds.j1, if_neg (by simp)]) (Ev.bind hv ?_)
    exact ev_neg (by simp) nx
  · rw [h] at hv nx
    refine Ev.step (fun k => by rw [indenturelaw17_MdlabelBounds.j1, if_neg (by simp)]) (Ev.bind hv ?_)
    have hbm := bt_at s hs x y c (m - 1) (by omega)
    have w1 : wrap64 (x + 2) = x + 2 := w64 (by omega) (by omega)
    have w2 : wrap64 (((a + m : Nat) : Int) - 1) = ((a + (m - 1) : Nat) : Int) := by rw [w64 (by omega) (by omega)]; omega
    refine Ev.congr (fun k => ?_) nx
    dsimp only at *
    rw [if_pos rfl, if_neg (by omega), if_neg (by omega), w1, if_neg (by omega), if_pos (by omega), if_pos (by omega), w2, if_pos (show (0 : Int) ≤ ((a + (m - 1) : Nat) : Int) by omega), if_pos (show ((a + (m - 1) : Nat) : Int) < (s.size : Int) by omega), hbm, hb0]
    by_cases h40 : bt t 0 = 40
    · rw [if_pos h40, if_pos (h4 h40)]
    · rw [if_neg h40, if_pos (show (0 : Int) ≤ ((a + (m - 1) : Nat) : Int) by omega), if_pos (show ((a + (m - 1) : Nat) : Int) < (s.size : Int) by omega), if_pos (h5 h40)]
theorem bounds_j0 : Ev (fun k => indenturelaw17_MdlabelBounds.j0 k s x y (mn y (endN s)) (rdS t a).1 false) true := by
  have hx := c.hx
  have hi := c.ins
  have he := c.end_
  have hsz := c.part.sz
  have hv := dest_p_in s (by omega) x y c
  have nx := bounds_j1 s hs x y c
  have hb0 : bt s x = bt t 0 := by
    have h0 := bt_at s hs x y c 0 c.pos
    rw [Nat.add_zero, ← hx] at h0
    exact h0
  rcases ds_facts t a with h | ⟨m, h, h2, h3, h4, h5⟩
  · rw [h] at hv
    refine Ev.step (fun k => by rw [indenturelaw17_MdlabelBounds.j0, if_neg (by simp)]) (Ev.bind hv ?_)
    exact ev_neg (by simp) nx
  · rw [h] at hv
    refine Ev.step (fun k => by rw [indenturelaw17_MdlabelBounds.j0, if_neg (by simp)]) (Ev.bind hv ?_)
    have hbm := bt_at s hs x y c (m - 1) (by omega)
    have w2 : wrap64 (((a + m : Nat) : Int) - 1) = ((a + (m - 1) : Nat) : Int) := by rw [w64 (by omega) (by omega)]; omega
    refine Ev.congr (fun k => ?_) nx
    dsimp only at *
    rw [if_pos rfl, if_neg (by omega), if_neg (by omega), if_neg (by omega), w2, if_pos (show (0 : Int) ≤ ((a + (m - 1) : Nat) : Int) by omega), if_pos (show ((a + (m - 1) : Nat) : Int) < (s.size : Int) by omega), blank_val, Option.bind_some, hbm, h4, if_neg (by simp), if_pos (by omega), if_pos (by omega), hb0]
    by_cases h60 : bt t 0 = 60
    · rw [if_pos h60, if_pos (h5 h60)]
    · rw [if_neg h60]
theorem bounds_in : Ev (fun k => indenturelaw17_MdlabelBounds.f k s x y) true := by
  have hx := c.hx
  have hi := c.ins
  have he := c.end_
  have hsz := c.part.sz
  have hv := read_p_in s (by omega) x y c
  have nx := bounds_j0 s hs x y c
  have hb0 : bt s x = bt t 0 := by
    have h0 := bt_at s hs x y c 0 c.pos
    rw [Nat.add_zero, ← hx] at h0
    exact h0
  unfold indenturelaw17_MdlabelBounds.f
  refine ev_neg (by omega) (Ev.bind (end_val s (by omega)) (Ev.bind hv ?_))
  rcases rd_facts t a with h | ⟨m, h, h2, h3, _, h4, h5⟩
  · rw [h] at nx ⊢
    exact ev_neg (by simp) nx
  · rw [h] at nx ⊢
    have hbm := bt_at s hs x y c (m - 1) (by omega)
    have w1 : wrap64 (x + 3) = x + 3 := w64 (by omega) (by omega)
    have w2 : wrap64 (((a + m : Nat) : Int) - 1) = ((a + (m - 1) : Nat) : Int) := by rw [w64 (by omega) (by omega)]; omega
    refine Ev.congr (fun k => ?_) nx
    dsimp only at *
    rw [if_pos rfl, if_neg (by omega), if_neg (by omega), w1, if_neg (by omega), if_pos (by omega), if_pos (by omega), hb0, if_pos h4, w2, if_pos (show (0 : Int) ≤ ((a + (m - 1) : Nat) : Int) by omega), if_pos (show ((a + (m - 1) : Nat) : Int) < (s.size : Int) by omega), hbm, if_pos h5]
end
theorem bounds_out (s : ByteArray) (hs : s.size ≤ 500) (x y : Int) (h : ¬ (0 ≤ x ∧ x < mn y (endN s))) : Ev (fun k => indenturelaw17_MdlabelBounds.f k s x y) true := by
  unfold indenturelaw17_MdlabelBounds.f
  refine ev_neg (by omega) (Ev.bind (end_val s (by omega)) (Ev.bind (read_p_out s (by omega) x y h) (ev_neg (by simp) ?_)))
  refine Ev.step (fun k => by rw [indenturelaw17_MdlabelBounds.j0, if_neg (show ¬ (((0 : Int) != 0) = true) by decide)]) (Ev.bind (dest_p_out s (by omega) x y h) ?_)
  refine ev_neg (by simp) ?_
  refine Ev.step (fun k => by rw [indenturelaw17_MdlabelBounds.j1, if_neg (show ¬ (((0 : Int) != 0) = true) by decide)]) (Ev.bind (title_p_out s (by omega) x y h) ?_)
  refine ev_neg (by simp) ?_
  refine Ev.step (fun k => by rw [indenturelaw17_MdlabelBounds.j2, if_neg (show ¬ (((0 : Int) != 0) = true) by decide)]) (Ev.bind (skip_p_out s (by omega) x y h) ?_)
  have last : Ev (fun k => indenturelaw17_MdlabelBounds.j3 k s x (mn y (endN s)) 0 0 x false) true :=
    Ev.step (f := fun k => (indenturelaw17_reads.f k).bind fun t => some t) (fun k => by rw [indenturelaw17_MdlabelBounds.j3, if_neg (by simp), if_pos rfl]) reads_end
  by_cases hx : x ≥ 0
  · refine ev_pos hx ?_
    rw [decide_eq_false (by omega)]; exact last
  · exact ev_neg hx last
theorem MdlabelBounds : indenturelaw17_MdlabelBounds.Pure := by
  intro s x y hs hx hy
  refine Ev.rounds ?_
  by_cases hb : (s.size : Int) > 500
  · unfold indenturelaw17_MdlabelBounds.f
    exact ev_pos hb (Ev.now _)
  by_cases h : 0 ≤ x ∧ x < mn y (endN s)
  · obtain ⟨t, a, c⟩ := cut_of s x y h
    exact bounds_in s (by omega) x y c
  · exact bounds_out s (by omega) x y h
end Go.Proofs.Ytlmhdiienpebfaa.Pure
