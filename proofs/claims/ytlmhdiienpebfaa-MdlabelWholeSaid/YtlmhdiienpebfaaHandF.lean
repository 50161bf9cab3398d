/- The contract of mdlabel.Fold, walked by hand: strings.FieldsFunc and strings.Join by their contracts, the loop over the bytes. Conditions: a text of at most 2^32 bytes, a joined text of at most 2^47 bytes (else nothing is said). -/
import Derived.Test.YtlmhdiienpebfaaHandL
import Derived.Lib.FieldsP
namespace Go.Proofs.Ytlmhdiienpebfaa.P
open Go.RowKit Go.Proofs.YtlmhdiienpebfaaW.PrintWords Go.Proofs.YtlmhdiienpebfaaW.PrintLast Go.Proofs.YtlmhdiienpebfaaW.PrintMore
set_option linter.unusedVariables false
set_option linter.unusedSimpArgs false

def blankP (x : Nat) : Bool := x == 32 || x == 9
def lowI (x : Int) : Int := if 65 ≤ x ∧ x ≤ 90 then x + 32 else x
def joined (s : ByteArray) : ByteArray := ⟨(Lib.join ((Lib.goFieldsP blankP s).map (·.data.toList)) [32]).toArray⟩
def mdlabel_Fold.f (s : ByteArray) : Option ByteArray :=
  if s.size ≤ 4294967296 ∧ (Lib.goFieldsP blankP s).length ≤ 140737488355328 ∧ (joined s).size ≤ 140737488355328 then some (strOfNums ((bytesOf (joined s)).map lowI)) else none

theorem fold_pred (x : Nat) (w : World) : Calls Try.prog 28 #[.int .i32 x] w fun e w' => e = .returned (.bool (blankP x)) ∧ w = w' := by
  by_cases h1 : x = 32
  · subst h1
    go_enter Try.func28, Try.ntmps28
    go_wp2
    go_ret
    exact ⟨rfl, rfl⟩
  · by_cases h2 : x = 9
    · subst h2
      go_enter Try.func28, Try.ntmps28
      go_wp2
      go_ret
      exact ⟨rfl, rfl⟩
    · have e1 : ((x : Int) == 32) = false := by simp; omega
      have e2 : ((x : Int) == 9) = false := by simp; omega
      have e3 : blankP x = false := by simp [blankP, h1, h2]
      have E3 := Lib.hid e3
      clear e3 h1 h2
      go_enter Try.func28, Try.ntmps28
      go_wp2
      go_ret
      exact ⟨by rw [E3.out]; rfl, rfl⟩
theorem pred_at (w : World) : PredAtRunes Try.prog 28 #[] blankP w := by
  intro W x _ _
  exact (fold_pred x W).mono fun e w' ⟨he, hw⟩ => ⟨he, 0, hw.symm⟩

/-- The row of bytes at the loop's head: the first k of them are small letters. -/
structure FoldRow (w0 wr : World) (B : Nat) (l : List Int) (k : Nat) : Prop where
  cell : ∀ j, j < l.length → wr.cell? ⟨B, j, none⟩ = some (.int .u8 (if j < k then lowI (l.getD j 0) else l.getD j 0))
  free : ∀ j, j < l.length → wr.frozen? ⟨B, j, none⟩ = false
  below : Below w0.heap.size w0 wr

theorem FoldRow.keep {w0 wr : World} {B : Nat} {l : List Int} {k : Nat} (h : FoldRow w0 wr B l k) (hk : ¬ (65 ≤ l.getD k 0 ∧ l.getD k 0 ≤ 90)) : FoldRow w0 wr B l (k + 1) :=
  ⟨fun j hj => by
    rw [h.cell j hj]
    by_cases e : j = k
    · subst e
      rw [if_neg (by omega), if_pos (by omega), lowI, if_neg hk]
    · by_cases e2 : j < k
      · rw [if_pos e2, if_pos (by omega)]
      · rw [if_neg e2, if_neg (by omega)], h.free, h.below⟩
theorem FoldRow.store {w0 wr : World} {B : Nat} {l : List Int} {k : Nat} (h : FoldRow w0 wr B l k) (hB : w0.heap.size ≤ B) (hk : k < l.length) (v : Int) (hv : v = lowI (l.getD k 0)) : FoldRow w0 (wr.setCell ⟨B, k, none⟩ (.int .u8 v)) B l (k + 1) := by
  have hc := h.cell k hk
  refine ⟨fun j hj => ?_, fun j hj => ?_, below_set h.below hB⟩
  · by_cases e : j = k
    · subst e
      rw [if_pos (by omega), ← hv]
      exact World.cell?_setCell_same _ _ _ hc
    · rw [World.cell?_setCell_other _ _ _ _ (by intro h; injection h with _ h; exact e h.symm)]
      rw [h.cell j hj]
      by_cases e2 : j < k
      · rw [if_pos e2, if_pos (by omega)]
      · rw [if_neg e2, if_neg (by omega)]
  · rw [World.frozen?_setCell]; exact h.free j hj
theorem fold_start {w0 w : World} (s : ByteArray) (hb : Below w0.heap.size w0 w) : FoldRow w0 (Lib.bytesWorld w 5 s) w.heap.size (bytesOf s) 0 := by
  refine ⟨fun j hj => ?_, fun j hj => ?_, ?_⟩
  · rw [bytesOf_length] at hj
    rw [Lib.bytesWorld_cell w 5 s j hj, if_neg (by omega)]
    have hjl : j < s.data.toList.length := by rw [data_length]; exact hj
    simp [bytesOf, List.getD, List.getElem?_eq_getElem hjl]
  · rw [bytesOf_length] at hj
    have hsz : s.size ≤ (Lib.bytesCells w 5 s).size := by
      simp only [Lib.bytesCells, Array.size_append, Array.size_map]
      have : s.data.size = s.size := rfl
      omega
    simp only [World.frozen?, Lib.bytesWorld_at_new]
    simp
    omega
  · refine hb.trans ⟨rfl, rfl, rfl, ?_, fun k hk => Lib.bytesWorld_at_old w 5 s k (Nat.lt_of_lt_of_le hk hb.size)⟩
    rw [Lib.bytesWorld_size]
    omega
theorem fold_end {w0 wr : World} {B : Nat} {l : List Int} (h : FoldRow w0 wr B l l.length) : ∀ i, i < l.length → wr.cell? ⟨B, 0 + i, none⟩ = some (.int .u8 ((l.map lowI).getD i 0)) := by
  intro i hi
  rw [Nat.zero_add, h.cell i hi, if_pos hi]
  simp [List.getD, List.getElem?_eq_getElem hi]

set_option maxHeartbeats 1000000 in
theorem fold_core (s j : ByteArray) (fs : List ByteArray) (w : World) (hs : s.size ≤ 4294967296) (hj : j.size ≤ 140737488355328)
    (c1 : Calls Try.prog 27 #[.string s, .func (.func 28) #[] #[]] w fun e w' => ∃ v : Value, e = .returned v ∧ Below w.heap.size w w' ∧ Hid (∀ W, Below w'.heap.size w' W → Calls Try.prog 29 #[v, .string ⟨#[32]⟩] W fun e W' => e = .returned (.string j) ∧ Below W.heap.size W W')) :
    Calls Try.prog 10 #[.string s] w fun e w' => e = .returned (.string (strOfNums ((bytesOf j).map lowI))) ∧ Below w.heap.size w w' := by
  have C1 := Lib.hid c1
  clear c1
  have hconv := fun W => Lib.run_convert_string_bytes (P := Try.prog) W 9 33 5 j Try.underlying9 Try.underlying33 Try.underlying5
  go_enter Try.func10, Try.ntmps10
  go_wp2_with (first | (go_at_call 27; refine C1.out.mono ?_; rintro e w1 ⟨v, rfl, hb1, c2⟩) | (go_at_call 29; refine (c2.out _ (Below.refl _ _)).mono ?_; rintro e w2 ⟨rfl, hb2⟩))
  have B1 := Lib.hid (hb1.trans (hb2.mono hb1.size))
  clear hb1 hb2 c2 hconv
  go_loopw [14] (fun i wr => ∃ k : Nat, k ≤ j.size ∧ i = .int .i64 k ∧ FoldRow w wr w2.heap.size (bytesOf j) k) (fun i _ => j.size - (intOf i).toNat)
  case atStart => exact ⟨0, Nat.zero_le _, rfl, fold_start j B1.out⟩
  case round =>
    obtain ⟨k, hk, rfl, HF⟩ := hrel
    have hl := bytesOf_length j
    by_cases hlt : k < j.size
    · have hcell := HF.cell k (by omega)
      rw [if_neg (Nat.lt_irrefl k)] at hcell
      have hfree := HF.free k (by omega)
      have Hst := Lib.hid (HF.store B1.out.size (k := k) (by omega))
      have Hkp := Lib.hid (HF.keep (k := k))
      clear hl
      generalize (bytesOf j).getD k 0 = c at hcell Hst Hkp
      by_cases h1 : 65 ≤ c
      · by_cases h2 : c ≤ 90
        · go_wp2
          go_roundw
          case rel => exact ⟨k + 1, by omega, by go_num, Hst.out _ (by unfold lowI; rw [if_pos ⟨h1, h2⟩])⟩
          case measure => simp [intOf]; omega
        · go_wp2
          go_roundw
          case rel => exact ⟨k + 1, by omega, by go_num, Hkp.out (by omega)⟩
          case measure => simp [intOf]; omega
      · go_wp2
        go_roundw
        case rel => exact ⟨k + 1, by omega, by go_num, Hkp.out (by omega)⟩
        case measure => simp [intOf]; omega
    · obtain rfl : k = j.size := by omega
      rw [← hl] at HF
      have hend := run_convert_bytes_arg (P := Try.prog) wr 33 5 Try.underlying33 Try.underlying5 w2.heap.size 0 j.size (grownCap w2 j.size 0 5) ((bytesOf j).map lowI) (by simp [hl]) (by rw [← hl]; exact fold_end HF) 9 Try.underlying9
      have HB := Lib.hid HF.below
      clear HF hl
      go_wp2
      go_ret
      exact ⟨rfl, HB.out⟩

theorem mdlabel_Fold.calls (a0 r : ByteArray) (w : World) (h : mdlabel_Fold.f a0 = some r) :
    Calls Try.prog 10 #[.string a0] w fun e w' => e = .returned (.string r) ∧ Below w.heap.size w w' := by
  unfold mdlabel_Fold.f at h
  by_cases hc : a0.size ≤ 4294967296 ∧ (Lib.goFieldsP blankP a0).length ≤ 140737488355328 ∧ (joined a0).size ≤ 140737488355328
  rotate_left
  · rw [if_neg hc] at h; cases h
  rw [if_pos hc] at h
  obtain rfl := Option.some.inj h
  obtain ⟨h1, h2, h3⟩ := hc
  refine fold_core a0 (joined a0) [] w h1 h3 ((Try.strings_FieldsFunc_runes 28 #[] (fun _ _ => rfl) blankP a0 w h1 (pred_at w)).mono ?_)
  rintro e w1 ⟨A, rfl, hA, hown, hb⟩
  refine ⟨_, rfl, hb, Lib.hid fun W hW => ?_⟩
  have hj : (joined a0).size = (Lib.join ((Lib.goFieldsP blankP a0).map (·.data.toList)) [32]).length := by rw [Lib.size_eq]; rfl
  by_cases hn : 0 < (Lib.goFieldsP blankP a0).length
  · have hcell : ∀ (j : Nat) x, (Lib.goFieldsP blankP a0)[j]? = some x → W.cell? ⟨A, 0 + j, none⟩ = some (.string x) := by
      intro j x hx
      have hjl : j < (Lib.goFieldsP blankP a0).length := (List.getElem?_eq_some_iff.1 hx).1
      have hc := (own_at_of (d := (ByteArray.empty)) (enc := Value.string) hown (j : Int) (by omega) (by omega)).1
      rw [Int.toNat_natCast] at hc
      rw [Nat.zero_add, hW.cell (p := ⟨A, j, none⟩) (by
        by_cases hlt : A < w1.heap.size
        · exact hlt
        · simp [World.cell?, Array.getElem?_eq_none (Nat.le_of_not_lt hlt)] at hc), hc]
      simp [rdOf, List.getD_eq_getElem?_getD, hx]
    have hAW : A < W.heap.size := by
      have hc := hcell 0 _ (List.getElem?_eq_getElem hn)
      by_cases hlt : A < W.heap.size
      · exact hlt
      · simp [World.cell?, Array.getElem?_eq_none (Nat.le_of_not_lt hlt)] at hc
    exact Try.strings_Join A 0 _ (Lib.goFieldsP blankP a0) ⟨#[32]⟩ W hcell hAW h2 (Nat.le_refl _) (by rw [← hj]; exact h3)
  · have e0 : Lib.goFieldsP blankP a0 = [] := List.eq_nil_of_length_eq_zero (by omega)
    have ej : joined a0 = ⟨#[]⟩ := by unfold joined; rw [e0]; rfl
    rw [e0, ej]
    exact (Try.strings_Join_none _ _ _ W).mono fun e w' ⟨he, hw⟩ => ⟨he, hw ▸ Below.refl _ _⟩
end Go.Proofs.Ytlmhdiienpebfaa.P
