/- mdcode.Read, in the printed functions' form. Conditions: the world holds the number that strings.Index reads. -/
import Derived.Test.YtodgioleaegpfaaDoorHandP
import Derived.Test.YtodgioleaegpfaaDoorHandM
namespace Go.Proofs.YtodgioleaegpfaaDoor.P
open Go.RowKit Go.Proofs.YtodgioleaegpfaaDoorW.PrintWords Go.Proofs.YtodgioleaegpfaaDoorW.PrintLast Go.Proofs.YtodgioleaegpfaaDoorW.PrintMore
set_option linter.unusedVariables false
set_option linter.unusedSimpArgs false
/-- What is read behind a first byte; s: the text from there to the end e, a: the place, z: the line's size ahead of its end. -/
def readB (k : Nat) (s : ByteArray) (a e z : Int) (lf : Bool) : Option (Int × Int) :=
  if bt s 0 = 92 then
    (if (s.size : Int) = 1 ∧ e = z then some (91, e)
     else if (s.size : Int) > 1 then (mdcode_mark.f (bt s 1)).bind fun mk => if mk = true then some (90, IntKind.i64.wrap (a + 2)) else some (0, IntKind.i64.wrap (a + 1))
     else some (0, IntKind.i64.wrap (a + 1)))
  else if bt s 0 = 32 then
    (if e = z ∧ lf = true ∧ (s.size : Int) > 1 then (strings_Trim.f s ⟨#[32]⟩).bind fun tr => if tr.size = 0 then some (91, e) else some (0, IntKind.i64.wrap (a + 1))
     else some (0, IntKind.i64.wrap (a + 1)))
  else if bt s 0 = 96 then
    ((mdcode_code.f k s).bind fun cd => if cd > 0 then some (83, IntKind.i64.wrap (a + cd)) else (mdcode_accents.f s).bind fun ac => some (0, IntKind.i64.wrap (a + ac)))
  else if bt s 0 = 60 then
    ((strings_IndexByte.f s 62).bind fun ix => if ix > 0 ∧ ix ≤ (s.size : Int) then
        (mdcode_scheme.f k (s.extract 1 ix.toNat)).bind fun sc => if sc = true then some (88, IntKind.i64.wrap (IntKind.i64.wrap (a + ix) + 1)) else
          (mdcode_mail.f k (s.extract 1 ix.toNat)).bind fun ml => if ml = true then some (88, IntKind.i64.wrap (IntKind.i64.wrap (a + ix) + 1)) else some (0, IntKind.i64.wrap (a + 1))
      else if ix ≤ 0 then some (0, IntKind.i64.wrap (a + 1)) else none)
  else if bt s 0 = 38 then
    ((strings_IndexByte.f s 59).bind fun ix => if ix > 0 ∧ ix ≤ (s.size : Int) then
        (if (s.extract 1 ix.toNat).size ≤ 4294967296 then (if entS (s.extract 1 ix.toNat) = true then some (89, IntKind.i64.wrap (IntKind.i64.wrap (a + ix) + 1)) else some (0, IntKind.i64.wrap (a + 1))) else none)
      else if ix ≤ 0 then some (0, IntKind.i64.wrap (a + 1)) else none)
  else some (0, IntKind.i64.wrap (a + 1))
def mdcode_Read.f (k : Nat) (line : ByteArray) (a en : Int) : Option (Int × Int) :=
  (mdcode_ahead.f line).bind fun p => if a < 0 ∨ a ≥ (if (p.1.size : Int) < en then (p.1.size : Int) else en) then some (0, 0)
    else readB k (p.1.extract a.toNat (Int.toNat (if (p.1.size : Int) < en then (p.1.size : Int) else en))) a (if (p.1.size : Int) < en then (p.1.size : Int) else en) (p.1.size : Int) p.2
theorem readB_mono (k : Nat) (s : ByteArray) (a e z : Int) (lf : Bool) : LeO (readB k s a e z lf) (readB (k + 1) s a e z lf) := by
  unfold readB
  repeat' first
      | (with_reducible exact mdcode_code.mono _ _)
      | (with_reducible exact mdcode_scheme.mono _ _)
      | (with_reducible exact mdcode_mail.mono _ _)
      | (with_reducible exact LeO.refl _)
      | (with_reducible refine LeO.ite ?_ ?_)
      | (with_reducible refine LeO.bind ?_ (fun _ => ?_))
theorem mdcode_Read.mono : ∀ a0 a1 a2 k, LeO (mdcode_Read.f k a0 a1 a2) (mdcode_Read.f (k + 1) a0 a1 a2) := by
  intro a0 a1 a2 k
  unfold mdcode_Read.f
  repeat' first
      | (with_reducible exact readB_mono _ _ _ _ _ _)
      | (with_reducible exact LeO.refl _)
      | (with_reducible refine LeO.ite ?_ ?_)
      | (with_reducible refine LeO.bind ?_ (fun _ => ?_))
theorem mdcode_Read.calls (k : Nat) (line : ByteArray) (a en : Int) (r1 r2 : Int) (w : World) (hM : Mx w) (h : mdcode_Read.f k line a en = some (r1, r2)) :
    Calls Tryd.prog 9 #[.string line, .int .i64 a, .int .i64 en] w fun e w' => e = .returned (.tuple #[.int .u8 r1, .int .i64 r2]) ∧ Below w.heap.size w w' := by
  unfold mdcode_Read.f at h
  obtain ⟨⟨al, lf⟩, c17, h⟩ := Option.bind_eq_some_iff.1 h
  dsimp only at h
  generalize hE : (if (al.size : Int) < en then (al.size : Int) else en) = e at h
  have he : e ≤ (al.size : Int) := by rw [← hE]; split <;> omega
  by_cases h0 : a < 0
  · rw [if_pos (.inl h0)] at h
    cases h
    exact Am.read_out_neg w hM line al al a en 0 0 0 lf true true true 0 0 0 c17 (decide_eq_true h0)
  by_cases h1 : a ≥ e
  · rw [if_pos (.inr h1)] at h
    cases h
    exact Am.read_out_end w hM line al al a en 0 0 0 lf true true true 0 0 0 c17 (decide_eq_false h0) (by rw [hE]; exact decide_eq_true h1)
  rw [if_neg (fun h => h.elim h0 h1)] at h
  generalize hS : al.extract a.toNat (Int.toNat e) = s at h
  have hsz : 0 < s.size := by rw [← hS, ByteArray.size_extract]; omega
  have n0 := decide_eq_false (p := a < 0) h0
  have n1 := decide_eq_false (p := a ≥ e) h1
  have n2 : decide (0 ≤ e ∧ e ≤ (al.size : Int)) = true := decide_eq_true (by omega)
  have n3 : decide (0 ≤ a ∧ a ≤ e) = true := decide_eq_true (by omega)
  have n4 : decide (0 ≤ (0 : Int) ∧ (0 : Int) < (s.size : Int)) = true := decide_eq_true (by omega)
  have bt1 : ∀ c : Int, bt s 0 = c → (bt s (0 : Int) == c) = true := fun c h => beq_iff_eq.2 h
  have bt0 : ∀ c : Int, ¬ bt s 0 = c → (bt s (0 : Int) == c) = false := fun c h => beq_eq_false_iff_ne.2 h
  unfold readB at h
  by_cases c92 : bt s 0 = 92
  · rw [if_pos c92] at h
    by_cases s1 : (s.size : Int) = 1
    · have q1 : ((s.size : Int) == (1 : Int)) = true := beq_iff_eq.2 s1
      by_cases ez : e = (al.size : Int)
      · rw [if_pos ⟨s1, ez⟩] at h
        cases h
        have P := Am.read_bs_last w hM line al al a en 0 0 0 lf true true true 0 0 0
        rw [hE, hS] at P
        exact P c17 n0 n1 n2 n3 n4 (bt1 _ c92) q1 (beq_iff_eq.2 ez)
      · rw [if_neg (fun h => ez h.2), if_neg (by omega)] at h
        cases h
        have P := Am.read_bs_one w hM line al al a en 0 0 0 lf true true true 0 0 0
        rw [hE, hS] at P
        exact P c17 n0 n1 n2 n3 n4 (bt1 _ c92) q1 (beq_eq_false_iff_ne.2 ez) (decide_eq_false (by omega))
    · have q1 : ((s.size : Int) == (1 : Int)) = false := beq_eq_false_iff_ne.2 s1
      rw [if_neg (fun h => s1 h.1), if_pos (by omega)] at h
      obtain ⟨mk, c18, h⟩ := Option.bind_eq_some_iff.1 h
      cases mk with
      | true =>
        cases h
        have P := Am.read_bs_mark w hM line al al a en 0 0 0 lf true true true 0 0 0
        rw [hE, hS] at P
        exact P c17 c18 n0 n1 n2 n3 n4 (bt1 _ c92) q1 (decide_eq_true (by omega)) (decide_eq_true (by omega)) rfl
      | false =>
        cases h
        have P := Am.read_bs_no w hM line al al a en 0 0 0 lf false true true 0 0 0
        rw [hE, hS] at P
        exact P c17 c18 n0 n1 n2 n3 n4 (bt1 _ c92) q1 (decide_eq_true (by omega)) (decide_eq_true (by omega)) rfl
  rw [if_neg c92] at h
  by_cases c32 : bt s 0 = 32
  · rw [if_pos c32] at h
    by_cases ez : e = (al.size : Int)
    rotate_left
    · rw [if_neg (fun h => ez h.1)] at h
      cases h
      have P := Am.read_sp_notlast w hM line al al a en 0 0 0 lf true true true 0 0 0
      rw [hE, hS] at P
      exact P c17 n0 n1 n2 n3 n4 (bt0 _ c92) (bt1 _ c32) (beq_eq_false_iff_ne.2 ez)
    have q1 := beq_iff_eq.2 ez
    cases lf with
    | false =>
      rw [if_neg (fun h => by cases h.2.1)] at h
      cases h
      have P := Am.read_sp_nolf w hM line al al a en 0 0 0 false true true true 0 0 0
      rw [hE, hS] at P
      exact P c17 n0 n1 n2 n3 n4 (bt0 _ c92) (bt1 _ c32) q1 rfl
    | true =>
      by_cases s1 : (s.size : Int) > 1
      rotate_left
      · rw [if_neg (fun h => s1 h.2.2)] at h
        cases h
        have P := Am.read_sp_one w hM line al al a en 0 0 0 true true true true 0 0 0
        rw [hE, hS] at P
        exact P c17 n0 n1 n2 n3 n4 (bt0 _ c92) (bt1 _ c32) q1 rfl (decide_eq_false s1)
      rw [if_pos ⟨ez, rfl, s1⟩] at h
      obtain ⟨tr, c19, h⟩ := Option.bind_eq_some_iff.1 h
      by_cases t0 : tr.size = 0
      · rw [if_pos t0] at h
        cases h
        have P := Am.read_sp_break w hM line al tr a en 0 0 0 true true true true 0 0 0
        rw [hE, hS] at P
        exact P c17 c19 n0 n1 n2 n3 n4 (bt0 _ c92) (bt1 _ c32) q1 rfl (decide_eq_true s1) (nil_true t0)
      · rw [if_neg t0] at h
        cases h
        have P := Am.read_sp_text w hM line al tr a en 0 0 0 true true true true 0 0 0
        rw [hE, hS] at P
        exact P c17 c19 n0 n1 n2 n3 n4 (bt0 _ c92) (bt1 _ c32) q1 rfl (decide_eq_true s1) (nil_false t0)
  rw [if_neg c32] at h
  by_cases c96 : bt s 0 = 96
  · rw [if_pos c96] at h
    obtain ⟨cd, c20, h⟩ := Option.bind_eq_some_iff.1 h
    by_cases cp : cd > 0
    · rw [if_pos cp] at h
      cases h
      have P := Am.read_tick w hM line al al a en cd 0 0 lf true true true k 0 0
      rw [hE, hS] at P
      exact P c17 c20 n0 n1 n2 n3 n4 (bt0 _ c92) (bt0 _ c32) (bt1 _ c96) (decide_eq_true cp)
    · rw [if_neg cp] at h
      obtain ⟨ac, c21, h⟩ := Option.bind_eq_some_iff.1 h
      cases h
      have P := Am.read_tick_no w hM line al al a en cd ac 0 lf true true true k 0 0
      rw [hE, hS] at P
      exact P c17 c20 c21 n0 n1 n2 n3 n4 (bt0 _ c92) (bt0 _ c32) (bt1 _ c96) (decide_eq_false cp)
  rw [if_neg c96] at h
  by_cases c60 : bt s 0 = 60
  · rw [if_pos c60] at h
    obtain ⟨ix, c22, h⟩ := Option.bind_eq_some_iff.1 h
    by_cases ip : ix > 0 ∧ ix ≤ (s.size : Int)
    · rw [if_pos ip] at h
      have q1 : decide (ix > 0) = true := decide_eq_true ip.1
      have q2 : decide (0 ≤ ix ∧ ix ≤ (s.size : Int)) = true := decide_eq_true (by omega)
      have q3 : decide (0 ≤ (1 : Int) ∧ (1 : Int) ≤ ix) = true := decide_eq_true (by omega)
      obtain ⟨sc, c23, h⟩ := Option.bind_eq_some_iff.1 h
      cases sc with
      | true =>
        cases h
        have P := Am.read_lt_scheme w hM line al al a en 0 0 ix lf true true true 0 0 k
        rw [hE, hS] at P
        exact P c17 c22 c23 n0 n1 n2 n3 n4 (bt0 _ c92) (bt0 _ c32) (bt0 _ c96) (bt1 _ c60) q1 q2 q3 rfl
      | false =>
        rw [if_neg (by simp)] at h
        obtain ⟨ml, c24, h⟩ := Option.bind_eq_some_iff.1 h
        cases ml with
        | true =>
          cases h
          have P := Am.read_lt_mail w hM line al al a en 0 0 ix lf true false true 0 k k
          rw [hE, hS] at P
          exact P c17 c22 c23 c24 n0 n1 n2 n3 n4 (bt0 _ c92) (bt0 _ c32) (bt0 _ c96) (bt1 _ c60) q1 q2 q3 rfl rfl
        | false =>
          cases h
          have P := Am.read_lt_none w hM line al al a en 0 0 ix lf true false false 0 k k
          rw [hE, hS] at P
          exact P c17 c22 c23 c24 n0 n1 n2 n3 n4 (bt0 _ c92) (bt0 _ c32) (bt0 _ c96) (bt1 _ c60) q1 q2 q3 rfl rfl
    · rw [if_neg ip] at h
      by_cases iz : ix ≤ 0
      · rw [if_pos iz] at h
        cases h
        have P := Am.read_lt_no w hM line al al a en 0 0 ix lf true true true 0 0 0
        rw [hE, hS] at P
        exact P c17 c22 n0 n1 n2 n3 n4 (bt0 _ c92) (bt0 _ c32) (bt0 _ c96) (bt1 _ c60) (decide_eq_false (by omega))
      · rw [if_neg iz] at h; cases h
  rw [if_neg c60] at h
  by_cases c38 : bt s 0 = 38
  · rw [if_pos c38] at h
    obtain ⟨ix, c22, h⟩ := Option.bind_eq_some_iff.1 h
    by_cases ip : ix > 0 ∧ ix ≤ (s.size : Int)
    · rw [if_pos ip] at h
      have q1 : decide (ix > 0) = true := decide_eq_true ip.1
      have q2 : decide (0 ≤ ix ∧ ix ≤ (s.size : Int)) = true := decide_eq_true (by omega)
      have q3 : decide (0 ≤ (1 : Int) ∧ (1 : Int) ≤ ix) = true := decide_eq_true (by omega)
      by_cases c25 : (s.extract 1 ix.toNat).size ≤ 4294967296
      · rw [if_pos c25] at h
        by_cases es : entS (s.extract 1 ix.toNat) = true
        · rw [if_pos es] at h
          cases h
          have P := Am.read_amp_yes w hM line al al a en 0 0 ix lf true true true 0 0 0
          rw [hE, hS] at P
          exact P c17 c22 c25 n0 n1 n2 n3 n4 (bt0 _ c92) (bt0 _ c32) (bt0 _ c96) (bt0 _ c60) (bt1 _ c38) q1 q2 q3 es
        · rw [if_neg es] at h
          cases h
          have P := Am.read_amp_none w hM line al al a en 0 0 ix lf true true true 0 0 0
          rw [hE, hS] at P
          exact P c17 c22 c25 n0 n1 n2 n3 n4 (bt0 _ c92) (bt0 _ c32) (bt0 _ c96) (bt0 _ c60) (bt1 _ c38) q1 q2 q3 (by simpa using es)
      · rw [if_neg c25] at h; cases h
    · rw [if_neg ip] at h
      by_cases iz : ix ≤ 0
      · rw [if_pos iz] at h
        cases h
        have P := Am.read_amp_no w hM line al al a en 0 0 ix lf true true true 0 0 0
        rw [hE, hS] at P
        exact P c17 c22 n0 n1 n2 n3 n4 (bt0 _ c92) (bt0 _ c32) (bt0 _ c96) (bt0 _ c60) (bt1 _ c38) (decide_eq_false (by omega))
      · rw [if_neg iz] at h; cases h
  rw [if_neg c38] at h
  cases h
  have P := Am.read_other w hM line al al a en 0 0 0 lf true true true 0 0 0
  rw [hE, hS] at P
  exact P c17 n0 n1 n2 n3 n4 (bt0 _ c92) (bt0 _ c32) (bt0 _ c96) (bt0 _ c60) (bt0 _ c38)
end Go.Proofs.YtodgioleaegpfaaDoor.P
