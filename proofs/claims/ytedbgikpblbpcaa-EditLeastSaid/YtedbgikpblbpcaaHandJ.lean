/- The contract of edit.join, by the contract of strings.Join. Conditions: a result of at most 2^47 bytes (else nothing is said). -/
import Derived.Test.YtedbgikpblbpcaaHandM
import Derived.Test.YtedbgikpblbpcaaShelf
namespace Go.Proofs.Ytedbgikpblbpcaa.P
open Go.RowKit Go.Proofs.YtedbgikpblbpcaaW.PrintWords Go.Proofs.YtedbgikpblbpcaaW.PrintLast Go.Proofs.YtedbgikpblbpcaaW.PrintMore
set_option linter.unusedVariables false
set_option linter.unusedSimpArgs false

/-- A row of strings that is read: its cells, by numbers. -/
theorem cells_of_C {w : World} {A : Option Addr} {l : List ByteArray} (h : Kd.string.C w A l.length l) (hn : 0 < l.length) :
    ∃ bk o, A = some ⟨bk, o, none⟩ ∧ bk < w.heap.size ∧ ∀ (j : Nat) x, l[j]? = some x → w.cell? ⟨bk, o + j, none⟩ = some (.string x) := by
  obtain ⟨ad, e, hc⟩ := Kd.at_string h 0 (Int.le_refl 0) (by omega)
  obtain ⟨bk, o, sp⟩ := ad
  have hsp : sp = none := by
    cases sp with
    | none => rfl
    | some v => simp [World.cell?, Addr.add] at hc; split at hc <;> simp at hc
  subst hsp
  refine ⟨bk, o, e, ?_, fun j x hj => ?_⟩
  · by_cases hlt : bk < w.heap.size
    · exact hlt
    · simp [World.cell?, Addr.add, Array.getElem?_eq_none (Nat.le_of_not_lt hlt)] at hc
  · have hjl : j < l.length := (List.getElem?_eq_some_iff.1 hj).1
    obtain ⟨ad, e2, hc2⟩ := Kd.at_string h (j : Int) (by omega) (by omega)
    rw [e] at e2
    obtain rfl := Option.some.inj e2
    simp only [Int.toNat_natCast, Addr.add] at hc2
    have e3 : (if j = 0 then (⟨bk, o, none⟩ : Addr) else ⟨bk, o + j, none⟩) = ⟨bk, o + j, none⟩ := by split <;> simp_all
    rw [e3] at hc2
    rw [hc2]
    simp [rdOf, List.getD_eq_getElem?_getD, hj]

def edit_join.f (l : List ByteArray) : Option ByteArray :=
  if l.length ≤ 140737488355328 ∧ (Lib.join (l.map (·.data.toList)) []).length ≤ 140737488355328 then some ⟨(Lib.join (l.map (·.data.toList)) []).toArray⟩ else none

theorem edit_join.calls (A0 : Option Addr) (c0 : Nat) (l0 : List ByteArray) (r : ByteArray) (w : World) (hr0 : Kd.string.C w A0 l0.length l0) (hc0 : l0.length ≤ c0) (h : edit_join.f l0 = some r) :
    Calls Try.prog 20 #[.slice A0 l0.length c0] w fun e w' => e = .returned (.string r) ∧ Below w.heap.size w w' := by
  unfold edit_join.f at h
  by_cases hs : l0.length ≤ 140737488355328 ∧ (Lib.join (l0.map (·.data.toList)) []).length ≤ 140737488355328
  rotate_left
  · rw [if_neg hs] at h; cases h
  rw [if_pos hs] at h
  obtain rfl := Option.some.inj h
  clear h
  by_cases hn : 0 < l0.length
  · obtain ⟨bk, o, rfl, hbk, hcell⟩ := cells_of_C hr0 hn
    have c := Lib.hid (Try.strings_Join bk o c0 l0 ⟨#[]⟩ w hcell hbk hs.1 hc0 hs.2)
    clear hcell hr0 hs
    go_enter Try.func20, Try.ntmps20
    go_wp2_with (go_at_call 25; refine c.out.mono ?_; rintro e w' ⟨rfl, hb⟩)
    go_ret
    exact ⟨rfl, hb⟩
  · have e0 : l0 = [] := List.eq_nil_of_length_eq_zero (by omega)
    subst e0
    have c := Lib.hid (Try.strings_Join_none A0 c0 ⟨#[]⟩ w)
    clear hr0 hs
    go_enter Try.func20, Try.ntmps20
    go_wp2_with (go_at_call 25; refine c.out.mono ?_; rintro e w' ⟨rfl, rfl⟩)
    go_ret
    exact ⟨rfl, Below.refl _ _⟩
end Go.Proofs.Ytedbgikpblbpcaa.P
