/- mdcode.Spans where nothing is told: the nil slice. Conditions: the world holds the number that strings.Index reads. -/
import Derived.Test.YtodgioleaegpfaaDoorHandF
namespace Go.Proofs.YtodgioleaegpfaaDoor.P
open Go.RowKit Go.Shelf Go.Proofs.YtodgioleaegpfaaDoorW.PrintWords Go.Proofs.YtodgioleaegpfaaDoorW.PrintLast Go.Proofs.YtodgioleaegpfaaDoorW.PrintMore
attribute [local go_sem] Oper.semAt_some
attribute [local go_sem] max2_int min2_int max_two min_two
set_option linter.unusedVariables false
set_option linter.unusedSimpArgs false
/-- The list's variable, nil, between two rounds. -/
def IN (w : World) (b : Nat) (xs : List S31) (W : World) : Prop := Boxed W b 27 (.slice none 0 0) ∧ Below w.heap.size w W ∧ b + 4 ≤ W.heap.size
theorem IN.stp {w : World} {b : Nat} (hb : b = w.heap.size) (xs : List S31) (A B : World) (h : IN w b xs A) (hs : Stp (b + 3) A B) : IN w b xs B := by
  obtain ⟨h1, h3, h4⟩ := h
  exact ⟨hs.same h1 (by omega), h3.trans ⟨hs.os, hs.tape, hs.output, hs.size, fun k hk => hs.block k (by have := h3.size; omega) (by omega)⟩, Nat.le_trans h4 hs.size⟩
theorem IN.own {w : World} {b n : Nat} (hn : w.heap.size ≤ n) : OwnFrom n (IN w b) :=
  OwnFrom.and (Own.from (boxed_own b 27 (fun (_ : List S31) => Value.slice none 0 0)) _) (OwnFrom.and (ownFrom_below (Nat.le_refl _) hn) (fun _ _ _ _ hs hg _ => Nat.le_trans hs hg.size))
set_option maxHeartbeats 4000000 in
set_option maxRecDepth 100000 in
theorem mdcode_Spans.calls_nil (k : Nat) (line : ByteArray) (fr en : Int) (w : World) (hM : Mx w) (h : mdcode_Spans.f k line fr en = some []) :
    Calls Tryd.prog 13 #[.string line, .int .i64 fr, .int .i64 en] w fun e w' => e = .returned (.slice none 0 0) ∧ Below w.heap.size w w' := by
  unfold mdcode_Spans.f at h
  obtain ⟨⟨al, lf⟩, hah, h⟩ := Option.bind_eq_some_iff.1 h
  obtain ⟨xs, hg, h⟩ := Option.bind_eq_some_iff.1 h
  obtain rfl : xs = [] := by
    by_cases hlen : xs.length < 5864062014805
    · rw [if_pos hlen] at h; exact Option.some.inj h
    · rw [if_neg hlen] at h; cases h
  clear h
  dsimp only at hg
  refine callsIn_wide (n := 3).1 ?_
  refine callsIn_of_wp_marks Tryd.func13 rfl trivial ?_ rfl
  simp only [show Tryd.f13.ntmps = 19 from rfl, List.size_toArray, List.length_cons, List.length_nil, Nat.reduceAdd, Nat.reduceSub, Array.replicate_succ, Array.replicate_zero, List.push_toArray, List.append_toArray, List.nil_append, List.cons_append]
  gi_wp2_with (first | (refine ⟨trivial, ?_⟩; gi_at_call 33; refine (callsIn_wide.2 (mdcode_spans.calls line fr en _)).mono ?_; rintro e w' ⟨rfl, rfl⟩))
  obtain ⟨W0, hW0⟩ : ∃ W0, (((w.alloc (.cells #[.slice none 0 0] 27)).alloc (.cells #[.string line] 9)).alloc (.cells #[.int .i64 fr] 3)).alloc (.cells #[.int .i64 en] 3) = W0 := ⟨_, rfl⟩
  have hb0 : 0 < w.heap.size := hM.1
  have hB0 : Below w.heap.size w W0 := by rw [← hW0]; exact ((((Below.refl _ w).alloc (Nat.le_refl _) _).alloc (by simp) _).alloc (by simp; omega) _).alloc (by simp; omega) _
  have hsz : W0.heap.size = w.heap.size + 4 := by rw [← hW0]; simp
  have b0 : Boxed W0 w.heap.size 27 (.slice none 0 0) := by rw [← hW0]; exact (((Boxed.new w _ _).alloc _).alloc _).alloc _
  have b1 : Boxed W0 (w.heap.size + 1) 9 (.string line) := by rw [← hW0]; have := Boxed.new (w.alloc (.cells #[.slice none 0 0] 27)) 9 (.string line); rw [World.size_alloc] at this; exact (this.alloc _).alloc _
  have b2 : Boxed W0 (w.heap.size + 2) 3 (.int .i64 fr) := by rw [← hW0]; have := Boxed.new ((w.alloc (.cells #[.slice none 0 0] 27)).alloc (.cells #[.string line] 9)) 3 (.int .i64 fr); simp only [World.size_alloc] at this; exact this.alloc _
  have b3 : Boxed W0 (w.heap.size + 3) 3 (.int .i64 en) := by rw [← hW0]; have := Boxed.new (((w.alloc (.cells #[.slice none 0 0] 27)).alloc (.cells #[.string line] 9)).alloc (.cells #[.int .i64 fr] 3)) 3 (.int .i64 en); simp only [World.size_alloc] at this; exact this
  try simp only [World.size_alloc, Nat.add_assoc, Nat.reduceAdd]
  rw [hW0]
  clear hW0
  refine range_gives (n := 3) rfl (by omega) (gf := 60) (lb := #[.pointer (some ⟨w.heap.size + 1, 0, none⟩), .pointer (some ⟨w.heap.size + 3, 0, none⟩), .pointer (some ⟨w.heap.size + 2, 0, none⟩)]) rfl trivial (enters_of Tryd.func60 (by kernel_rfl) rfl)
    (spans1_gives line fr en _ al lf k [] w.heap.size W0 2 hah rfl hg (hM.below hB0) hb0 b1 b2 b3) (by omega) (fun h k => h.trans k) (fun W l o o' hl ho hc => ⟨by simp [World.putObj], fun i h1 _ => World.putObj_heap_other (by omega)⟩) (fun _ => rfl)
    (IN w w.heap.size) (IN.stp rfl) (IN.own (by omega)) ⟨b0, hB0, by omega⟩ (fun _ _ _ => True) (fun _ _ _ _ _ _ _ _ _ => trivial) ?assign ?body ?done
  case assign =>
    rintro l pre x W K ⟨hv, hB, hsW⟩ hK
    dsimp only [encS]
    gi_wp2
    refine hK _ _ ((KeepsOthers.alloc _ _).from _) (KpS.below ((Below.refl _ W).alloc hsW _)) ⟨hv.alloc _, hB.alloc hB.size _, by simp; omega⟩ trivial
  case body =>
    rintro l pre x a' W _ _ ⟨rest, hrest⟩
    exact absurd hrest (by simp)
  case done =>
    rintro D W hD ⟨hv, hB, hsW⟩ hK
    have cv := hv.cell
    gi_wp2
    refine ⟨by simp, .inl ⟨_, _, rfl, run_takeDeferred hK, ?_⟩⟩
    exact ⟨_, results_tmp rfl _ _ _, rfl, hB.trans (belowK_b (w := w) (Nat.le_refl _) W D _ _ (by omega) hK rfl rfl)⟩
end Go.Proofs.YtodgioleaegpfaaDoor.P
