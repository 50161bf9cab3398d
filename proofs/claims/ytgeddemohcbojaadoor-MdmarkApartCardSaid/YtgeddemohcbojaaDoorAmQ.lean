/- The law MdmarkApart: its ways joined. No conditions but those of its parameters' kinds. -/
import Derived.Test.YtgeddemohcbojaaDoorAmPm
namespace Go.Proofs.YtgeddemohcbojaaDoor.Am
open Go Go.RowKit Go.Proofs.YtgeddemohcbojaaDoor.P Go.Proofs.YtgeddemohcbojaaDoor.Pure Go.Proofs.YtgeddemohcbojaaDoorW.PrintWords Go.Proofs.YtgeddemohcbojaaDoorW.PrintLast
set_option linter.unusedVariables false
theorem stands_out {a0 : ByteArray} {x : Int} {m : M7} (h : Stands (hd a0) x m) : ∃ (m1 m2 m3 m4 m5 : Int) (l : Nat), m = (m1, m2, m3, m4, m5, (l : Int), true) ∧ 0 ≤ x ∧ x < (l : Int) ∧ l ≤ endN a0 ∧ m3 ≤ (l : Int) ∧ m4 ≤ m5 ∧ m5 ≤ (l : Int) ∧
    blankI (bt a0 ((l : Int) - 1)) = false ∧ ∀ k : Nat, l ≤ k → k < endN a0 → blankI (bt a0 (k : Int)) = true := by
  obtain ⟨m1, m2, m3, m4, m5, m6, m7⟩ := m
  obtain ⟨h1, h2, h3, h4, h5, h6, h7, h8, h9⟩ := h
  dsimp only at h1 h3 h4 h5 h6 h7 h8 h9
  obtain ⟨l, rfl⟩ := Int.eq_ofNat_of_zero_le (show 0 ≤ m6 by omega)
  subst h1
  rw [hd_size] at h4 h9
  refine ⟨m1, m2, m3, m4, m5, l, rfl, h2, h3, by omega, h5, h6, h7, ?_, fun k k1 k2 => ?_⟩
  · rw [show (l : Int) - 1 = ((l - 1 : Nat) : Int) by omega] at h8 ⊢
    rwa [hd_bt a0 _ (by omega)] at h8
  · have := h9 k (by omega) k2
    rwa [hd_bt a0 _ k2] at this
theorem MdmarkApart_walk (a0 : ByteArray) (a1 : Int) (w0 : a0.size ≤ 140737488351232) (w1 : (Lit.int .i64 a1).wf = true) (w : World) :
    Calls Tryd.prog 10 #[.string a0, .int .i64 a1] w fun e w' => e = .returned (.bool true) ∧ Below w.heap.size w w' := by
  by_cases ha : a0.size ≤ 20000
  rotate_left
  · exact apart_long a0 a1 ha w
  obtain ⟨kH, hh⟩ := Ev.rounds (head_p a0 a1 (by omega))
  obtain ⟨kE, hE⟩ := Ev.rounds (end_val a0 (by omega))
  have hr := rule_p a0 a1 (by omega)
  have hu := under_p a0 a1 (by omega)
  have hf := fence_p a0 a1 (by omega)
  have hi := item_p a0 a1 (by omega)
  have hea := endN_le a0
  have cr := rule_cases (hd a0) a1
  have ch := head_cases (hd a0) a1
  have cu := under_cases (hd a0) a1
  have cf := fence_cases (hd a0) a1
  have ci := item_cases (hd a0) a1
  have ru := rule_under (hd a0) a1
  have ri := rule_item (hd a0) a1
  have rui := rule_under_item (hd a0) a1
  have hbt : ∀ x : Int, 0 ≤ x → x < ((hd a0).size : Int) → bt (hd a0) x = bt a0 x := by
    intro x h1 h2
    obtain ⟨n, rfl⟩ := Int.eq_ofNat_of_zero_le h1
    rw [hd_size] at h2
    exact hd_bt a0 n (by omega)
  have hz := hd_size a0
  have no : ∀ m : M7, m.2.2.2.2.2.2 = true → m ≠ none7 := fun m h e => by rw [e] at h; cases h
  generalize bt (hd a0) a1 = c at cr ch cu cf ci
  generalize hrg : ruleS (hd a0) a1 = r at hr cr ru ri rui
  generalize hhg : headS (hd a0) a1 = hm at hh ch
  generalize hug : underS (hd a0) a1 = u at hu cu ru rui
  generalize hfg : fenceS (hd a0) a1 = f at hf cf
  generalize hig : itemS (hd a0) a1 = i at hi ci ri rui
  rcases ch with rfl | ⟨x0, x1, c35, sh⟩
  rotate_left
  · -- a heading: nothing else
    have e1 : r = none7 := by rcases cr with e | ⟨_, _, e, _⟩; exact e; omega
    have e2 : u = none7 := by rcases cu with e | ⟨_, _, e, _⟩; exact e; omega
    have e3 : f = none7 := by rcases cf with e | ⟨_, _, e, _⟩; exact e; omega
    have e4 : i = none7 := by rcases ci with e | ⟨_, _, _, e⟩; exact e; omega
    subst e1 e2 e3 e4
    obtain ⟨m1, m2, m3, m4, m5, l, rfl, p0, p1, p2, p3, p4, p5, p6, p7⟩ := stands_out sh
    exact apart_head a0 a1 kH kE (endN a0) m1 m2 m3 m4 m5 l hr hh hu hf hi hE ha hea p0 p1 p2 p3 p4 p5 p6 p7 w
  rcases cf with rfl | ⟨x0, x1, c96, sf⟩
  rotate_left
  · have e1 : r = none7 := by rcases cr with e | ⟨_, _, e, _⟩; exact e; omega
    have e2 : u = none7 := by rcases cu with e | ⟨_, _, e, _⟩; exact e; omega
    have e4 : i = none7 := by rcases ci with e | ⟨_, _, _, e⟩; exact e; omega
    subst e1 e2 e4
    obtain ⟨m1, m2, m3, m4, m5, l, rfl, p0, p1, p2, p3, p4, p5, p6, p7⟩ := stands_out sf
    exact apart_fence a0 a1 kH kE (endN a0) m1 m2 m3 m4 m5 l hr hh hu hf hi hE ha hea p0 p1 p2 p3 p4 p5 p6 p7 w
  rcases cr with rfl | ⟨x0, x1, cc, sr, -⟩
  · rcases cu with rfl | ⟨-, -, -, su⟩
    · rcases ci with rfl | ⟨-, -, si, -⟩
      · exact apart_none a0 a1 kH kE (endN a0) hr hh hu hf hi hE ha hea w
      · obtain ⟨m1, m2, m3, m4, m5, l, rfl, p0, p1, p2, p3, p4, p5, p6, p7⟩ := stands_out si
        exact apart_item a0 a1 kH kE (endN a0) m1 m2 m3 m4 m5 l hr hh hu hf hi hE ha hea p0 p1 p2 p3 p4 p5 p6 p7 w
    · obtain ⟨m1, m2, m3, m4, m5, l, rfl, p0, p1, p2, p3, p4, p5, p6, p7⟩ := stands_out su
      rcases ci with rfl | ⟨-, -, si, -⟩
      · exact apart_under a0 a1 kH kE (endN a0) m1 m2 m3 m4 m5 l hr hh hu hf hi hE ha hea p0 p1 p2 p3 p4 p5 p6 p7 w
      · obtain ⟨n1, n2, n3, n4, n5, l', rfl, q0, q1, q2, q3, q4, q5, q6, q7⟩ := stands_out si
        exact apart_underItem a0 a1 kH kE (endN a0) m1 m2 m3 m4 m5 l n1 n2 n3 n4 n5 l' hr hh hu hf hi hE ha hea p0 p1 p2 p3 p4 p5 p6 p7 q0 q1 q2 q3 q4 q5 q6 q7 w
  · have hrn := no r sr.yes
    obtain ⟨m1, m2, m3, m4, m5, l, rfl, p0, p1, p2, p3, p4, p5, p6, p7⟩ := stands_out sr
    rcases cu with rfl | ⟨-, -, -, su⟩
    · rcases ci with rfl | ⟨-, -, si, -⟩
      · exact apart_rule a0 a1 kH kE (endN a0) m1 m2 m3 m4 m5 l hr hh hu hf hi hE ha hea p0 p1 p2 p3 p4 p5 p6 p7 w
      · obtain ⟨g1, g2, g3, g4⟩ := ri hrn (no i si.yes)
        obtain ⟨n1, n2, n3, n4, n5, l', rfl, q0, q1, q2, q3, q4, q5, q6, q7⟩ := stands_out si
        rw [hbt _ (by omega) g3] at g4
        exact apart_ruleItem a0 a1 kH kE (endN a0) m1 m2 m3 m4 m5 l n1 n2 n3 n4 n5 l' hr hh hu hf hi hE ha hea p0 p1 p2 p3 p4 p5 p6 p7 q0 q1 q2 q3 q4 q5 q6 q7 g1 g2 (by rw [hz] at g3; exact g3) g4 w
    · rcases ci with rfl | ⟨-, -, si, -⟩
      · obtain ⟨g1, g2, g3, g4, g5⟩ := ru hrn (no u su.yes)
        obtain ⟨n1, n2, n3, n4, n5, l', rfl, q0, q1, q2, q3, q4, q5, q6, q7⟩ := stands_out su
        exact apart_ruleUnder a0 a1 kH kE (endN a0) m1 m2 m3 m4 m5 l n1 n2 n3 n4 n5 l' hr hh hu hf hi hE ha hea p0 p1 p2 p3 p4 p5 p6 p7 q0 q1 q2 q3 q4 q5 q6 q7 g1 g2 g3 g4 (Int.ofNat_inj.1 g5) w
      · exact (rui hrn (no u su.yes) (no i si.yes)).elim
end Go.Proofs.YtgeddemohcbojaaDoor.Am
