/- mdcode.Spans, in the printed functions' form. Conditions: the world holds the number that strings.Index reads. -/
import Derived.Test.YtodgioleaegpfaaDoorHandFa
namespace Go.Proofs.YtodgioleaegpfaaDoor.P
open Go.RowKit Go.Shelf Go.Proofs.YtodgioleaegpfaaDoorW.PrintWords Go.Proofs.YtodgioleaegpfaaDoorW.PrintLast Go.Proofs.YtodgioleaegpfaaDoorW.PrintMore
attribute [local go_sem] Oper.semAt_some
attribute [local go_sem] max2_int min2_int max_two min_two
set_option linter.unusedVariables false
set_option linter.unusedSimpArgs false
def mdcode_Spans.g : Nat → ByteArray → Int → Int → Option (List S31)
  | 0, _, _, _ => none
  | k + 1, line, e, x => if 0 ≤ x ∧ x < e then (mdcode_Read.f k line x e).bind fun t => if t.1 = 0 then mdcode_Spans.g k line e t.2 else (mdcode_Spans.g k line e t.2).bind (fun r => some (⟨3, t.1, x, t.2⟩ :: r)) else some []
def mdcode_Spans.f (k : Nat) (line : ByteArray) (fr en : Int) : Option (List S31) :=
  (mdcode_ahead.f line).bind fun p => (mdcode_Spans.g k line (if (p.1.size : Int) < en then (p.1.size : Int) else en) fr).bind fun xs => if xs.length < 5864062014805 then some xs else none
theorem mdcode_Spans.mono_g : ∀ k line e x, LeO (mdcode_Spans.g k line e x) (mdcode_Spans.g (k + 1) line e x)
  | 0, _, _, _ => fun r h => by simp [mdcode_Spans.g] at h
  | k + 1, line, e, x => by
    have ih := mdcode_Spans.mono_g k
    unfold mdcode_Spans.g
    repeat' first
      | (with_reducible exact ih _ _ _)
      | (with_reducible exact mdcode_Read.mono _ _ _ _)
      | (with_reducible exact LeO.refl _)
      | (with_reducible refine LeO.ite ?_ ?_)
      | (with_reducible refine LeO.bind ?_ (fun _ => ?_))
theorem mdcode_Spans.mono : ∀ a0 a1 a2 k, LeO (mdcode_Spans.f k a0 a1 a2) (mdcode_Spans.f (k + 1) a0 a1 a2) := by
  intro a0 a1 a2 k
  unfold mdcode_Spans.f
  repeat' first
      | (with_reducible exact mdcode_Spans.mono_g _ _ _ _)
      | (with_reducible exact LeO.refl _)
      | (with_reducible refine LeO.ite ?_ ?_)
      | (with_reducible refine LeO.bind ?_ (fun _ => ?_))
set_option maxHeartbeats 2000000 in
set_option maxRecDepth 100000 in
/-- mdcode.spans: the three variables are boxed. -/
theorem mdcode_spans.calls (line : ByteArray) (fr en : Int) (w : World) :
    Calls Tryd.prog 33 #[.string line, .int .i64 fr, .int .i64 en] w fun e w' =>
      e = .returned (.func (.func 60) #[] #[.pointer (some ⟨w.heap.size, 0, none⟩), .pointer (some ⟨w.heap.size + 2, 0, none⟩), .pointer (some ⟨w.heap.size + 1, 0, none⟩)]) ∧
      w' = ((w.alloc (.cells #[.string line] 9)).alloc (.cells #[.int .i64 fr] 3)).alloc (.cells #[.int .i64 en] 3) := by
  go_enter Tryd.func33, (show Tryd.f33.ntmps = 8 from rfl)
  go_wp2
  go_ret
  exact ⟨rfl, rfl⟩
def encS (x : S31) : Value := .agg #[.int .u8 x.f0, .int .u8 x.f1, .int .i64 x.f2, .int .i64 x.f3]
/-- What a round keeps: the iterator's variables, and what lay ahead, but for the list's own variable at b. -/
def KpS (b : Nat) (A B : World) : Prop := A.heap.size ≤ B.heap.size ∧ ∀ k, k < b + 4 → k ≠ b → B.heap[k]? = A.heap[k]?
theorem Mx.kps {b : Nat} {A B : World} (h : Mx A) (hb : 0 < b) (hk : KpS b A B) : Mx B := by
  obtain ⟨h0, m, hm⟩ := h
  refine ⟨by have := hk.1; omega, m, ?_⟩
  rw [← hm]
  exact World.cell?_of_block (w := A) (hk.2 0 (by omega) (by omega))
theorem boxed_below {W W' : World} {B : Nat} {t : TypeId} {v : Value} (h : Boxed W B t v) (hb : Below W.heap.size W W') : Boxed W' B t v := (hb.block B h.lt).trans h
theorem boxed_kps {b : Nat} {W W' : World} {B : Nat} {t : TypeId} {v : Value} (h : Boxed W B t v) (hk : KpS b W W') (h1 : B < b + 4) (h2 : B ≠ b) : Boxed W' B t v := (hk.2 B h1 h2).trans h
set_option maxHeartbeats 4000000 in
set_option maxRecDepth 100000 in
theorem spans1_gives (line : ByteArray) (fr en e : Int) (al : ByteArray) (lf : Bool) (k : Nat) (xs : List S31) (b : Nat) (w : World) (n : Nat) (hah : mdcode_ahead.f line = some (al, lf))
    (he : (if (al.size : Int) < en then (al.size : Int) else en) = e) (hg : mdcode_Spans.g k line e fr = some xs) (hM : Mx w) (hb : 0 < b) (hl : Boxed w (b + 1) 9 (.string line)) (hf : Boxed w (b + 2) 3 (.int .i64 fr)) (hen : Boxed w (b + 3) 3 (.int .i64 en)) :
    Gives Fence.wide n Tryd.prog 60 #[.pointer (some ⟨b + 1, 0, none⟩), .pointer (some ⟨b + 3, 0, none⟩), .pointer (some ⟨b + 2, 0, none⟩)] (fun x : S31 => #[encS x]) (KpS b) (b + 3) xs w := by
  intro l J W hW hJ hY h0
  replace hl := boxed_below hl hW
  replace hf := boxed_below hf hW
  replace hen := boxed_below hen hW
  replace hM := hM.below hW
  refine callsIn_of_wp Tryd.func60 rfl trivial ?_ rfl
  simp only [show Tryd.f60.ntmps = 46 from rfl, List.size_toArray, List.length_cons, List.length_nil, Nat.reduceAdd, Nat.reduceSub, Array.replicate_succ, Array.replicate_zero, List.push_toArray, List.append_toArray, List.nil_append, List.cons_append]
  have cl := hl.cell
  have cf := hf.cell
  have ce := hen.cell
  have ff := hen.frozen
  gi_wp2_with (first | (refine ⟨trivial, fun h => absurd h (by decide), ?_⟩; gi_at_call 17; refine (callsIn_wide.2 (mdcode_ahead.calls line al lf _ hah)).mono ?_; rintro e w' ⟨rfl, ⟨nd, rfl⟩⟩))
  obtain ⟨W2, hW2⟩ : ∃ W2, (W.drewN nd).setCell ⟨b + 3, 0, none⟩ (.int .i64 e) = W2 := ⟨_, rfl⟩
  have hbW : Below W.heap.size W (W.drewN nd) := pw_below_drewN (Below.refl _ _) nd
  have hst : Stp (b + 3) W W2 := by
    rw [← hW2]
    have h1 := Stp.of_below (eb := b + 3) hbW
    have h2 := Stp.set (b + 3) (W.drewN nd) (.int .i64 e)
    exact ⟨h2.os.trans h1.os, h2.tape.trans h1.tape, h2.output.trans h1.output, Nat.le_trans h1.size h2.size, fun j hj hne => (h2.block j (Nat.lt_of_lt_of_le hj h1.size) hne).trans (h1.block j hj hne)⟩
  have hJ2 := Aside0.mk (hJ _ _ _ h0 hst)
  have hl2 := Aside0.mk (show Boxed W2 (b + 1) 9 (.string line) from hst.same hl (by omega))
  have hen2 := Aside0.mk (show Boxed W2 (b + 3) 3 (.int .i64 e) by rw [← hW2]; exact (boxed_below hen hbW).set _)
  have hM2 := Aside0.mk (show Mx W2 from (by
    obtain ⟨h0, m, hm⟩ := hM
    refine ⟨by have := hst.size; omega, m, ?_⟩
    rw [← hm]
    exact World.cell?_of_block (w := W) (hst.block 0 h0 (by omega))))
  rw [hW2]
  clear hW2 cl cf ce ff hl hf hen hbW hst hM h0
  have hg' := Aside0.mk hg
  clear hg
  gi_loopg [7] k (fun kq v7 wr => ∃ (x : Int) (pre rest : List S31), v7 = .int .i64 x ∧ Aside0 (xs = pre ++ rest) ∧ Aside0 (mdcode_Spans.g kq line e x = some rest) ∧ Aside0 (J pre wr) ∧ Aside0 (Mx wr) ∧ Aside0 (Boxed wr (b + 1) 9 (.string line)) ∧ Aside0 (Boxed wr (b + 3) 3 (.int .i64 e)))
  case atStart => exact ⟨fr, [], xs, rfl, ⟨rfl⟩, hg', hJ2, hM2, hl2, hen2⟩
  case round =>
    clear hg' hJ2 hM2 hl2 hen2
    obtain ⟨x, pre, rest, rfl, hx, hg, hJr, hMr, hlr, her⟩ := hrel
    cases gk with
    | zero => exact absurd hg.out (by simp [mdcode_Spans.g])
    | succ k1 =>
      have H := hg.out
      clear hg
      unfold mdcode_Spans.g at H
      have cl := hlr.out.cell
      have ce := her.out.cell
      by_cases c0 : 0 ≤ x
      · have c0b : decide (0 ≤ x) = true := decide_eq_true c0
        by_cases c1 : x < e
        · have c1b : decide (x < e) = true := decide_eq_true c1
          rw [if_pos ⟨c0, c1⟩] at H
          clear c0 c1
          obtain ⟨⟨kd, nx⟩, hrd, H⟩ := Option.bind_eq_some_iff.1 H
          dsimp only at H
          have R0 := Aside0.mk hrd
          clear hrd
          by_cases c3 : kd = 0
          · rw [if_pos c3] at H
            have c3b : (kd != 0) = false := bne_eq_false_iff_eq.2 c3
            clear c3
            have H0 := Aside0.mk H
            clear H
            gi_wp2_with (first | (refine ⟨trivial, fun h => absurd h (by decide), ?_⟩; gi_at_call 9; refine (callsIn_wide.2 (mdcode_Read.calls k1 line x e kd nx _ hMr.out R0.out)).mono ?_; rintro e' w' ⟨rfl, hbw⟩; have n0_ := Aside0.mk (hJ _ _ _ hJr.out (Stp.of_below hbw)); have n1_ := Aside0.mk (hMr.out.below hbw); have n2_ := Aside0.mk (boxed_below hlr.out hbw); have n3_ := Aside0.mk (boxed_below her.out hbw); clear hJr hMr hlr her cl ce hbw; have hJr := n0_; have hMr := n1_; have hlr := n2_; have her := n3_; clear n0_ n1_ n2_ n3_))
            refine ⟨fun _ h => (by cases h), ?_⟩
            gi_wp2
            gi_roundg k1
            case measure => omega
            case rel => exact ⟨nx, pre, rest, rfl, hx, H0, hJr, hMr, hlr, her⟩
          · rw [if_neg c3] at H
            have c3b : (kd != 0) = true := bne_iff_ne.2 c3
            clear c3
            obtain ⟨rs, hrs, H⟩ := Option.bind_eq_some_iff.1 H
            have H0 := Aside0.mk hrs
            have hr := Aside0.mk (Option.some.inj H).symm
            clear H hrs
            gi_wp2_with (first | (refine ⟨trivial, fun h => absurd h (by decide), ?_⟩; gi_at_call 9; refine (callsIn_wide.2 (mdcode_Read.calls k1 line x e kd nx _ hMr.out R0.out)).mono ?_; rintro e' w' ⟨rfl, hbw⟩; have n0_ := Aside0.mk (hJ _ _ _ hJr.out (Stp.of_below hbw)); have n1_ := Aside0.mk (hMr.out.below hbw); have n2_ := Aside0.mk (boxed_below hlr.out hbw); have n3_ := Aside0.mk (boxed_below her.out hbw); clear hJr hMr hlr her cl ce hbw; have hJr := n0_; have hMr := n1_; have hlr := n2_; have her := n3_; clear n0_ n1_ n2_ n3_; obtain ⟨fn, tmps, assign, body, hy, hR⟩ := hY pre ⟨3, kd, x, nx⟩ w' hJr.out ⟨rs, by rw [hx.out, hr.out]⟩; dsimp only [encS] at hy))
            refine ⟨fun h => absurd h (by decide), hR.mono ?_⟩
            rintro e2 W3 ⟨rfl, hJ3, hk3⟩
            have m0 := Aside0.mk hJ3
            have m1 := Aside0.mk (hMr.out.kps hb hk3)
            have m2 := Aside0.mk (boxed_kps hlr.out hk3 (by omega) (by omega))
            have m3 := Aside0.mk (boxed_kps her.out hk3 (by omega) (by omega))
            clear hJr hMr hlr her hy hR hJ3 hk3
            gi_wp2
            gi_roundg k1
            case measure => omega
            case rel => exact ⟨nx, pre ++ [⟨3, kd, x, nx⟩], rs, rfl, ⟨by rw [hx.out, hr.out]; simp⟩, H0, m0, m1, m2, m3⟩
        · rw [if_neg (fun h => c1 h.2)] at H
          have c1b : decide (x < e) = false := decide_eq_false c1
          clear c0 c1
          have hr := Aside0.mk (Option.some.inj H).symm
          clear H
          gi_wp2
          go_end0
          exact ⟨⟨_, rfl⟩, by have h1 := hJr.out; have h2 := hx.out; rw [hr.out, List.append_nil] at h2; rw [h2]; exact h1⟩
      · rw [if_neg (fun h => c0 h.1)] at H
        have c0b : decide (0 ≤ x) = false := decide_eq_false c0
        clear c0
        have hr := Aside0.mk (Option.some.inj H).symm
        clear H
        gi_wp2
        go_end0
        exact ⟨⟨_, rfl⟩, by have h1 := hJr.out; have h2 := hx.out; rw [hr.out, List.append_nil] at h2; rw [h2]; exact h1⟩
/-! ### mdcode.Spans -/
/-- The list's cells. -/
def evC : List S31 → List Value
  | [] => []
  | x :: xs => .int .u8 x.f0 :: .int .u8 x.f1 :: .int .i64 x.f2 :: .int .i64 x.f3 :: evC xs
theorem evC_snoc (xs : List S31) (x : S31) : evC (xs ++ [x]) = evC xs ++ [.int .u8 x.f0, .int .u8 x.f1, .int .i64 x.f2, .int .i64 x.f3] := by
  induction xs with
  | nil => rfl
  | cons y ys ih => simp only [List.cons_append, evC, ih]
theorem reps_evC (W : World) (base : Nat) (ok : Nat → Prop) : ∀ xs : List S31, Reps (k31.M W base ok) 4 xs (evC xs)
  | [] => Reps.none _ _
  | x :: xs => by
    obtain ⟨h1, h2⟩ := reps_evC W base ok xs
    refine ⟨by simp only [evC, List.length_cons, h1]; omega, fun j p hj => ?_⟩
    cases j with
    | zero =>
      obtain rfl : x = p := by simpa using hj
      exact k31_mkM W base ok x
    | succ j =>
      have := h2 j p (by simpa using hj)
      have e : List.drop ((j + 1) * 4) (evC (x :: xs)) = List.drop (j * 4) (evC xs) := by
        rw [show (j + 1) * 4 = j * 4 + 1 + 1 + 1 + 1 by omega]; rfl
      rw [e]
      exact this
/-- The list's variable, and its row, between two rounds. -/
def IS (w : World) (b : Nat) (xs : List S31) (W : World) : Prop :=
  (∃ v, Boxed W b 27 v ∧ W.ownsRow (b + 4) 31 4 v xs.length (evC xs) ∧ True) ∧ Below w.heap.size w W ∧ b + 4 ≤ W.heap.size
/-- The loop's variable. -/
def Box4 (W : World) (B : Nat) (x : S31) : Prop := W.heap[B]? = some (.cells #[.int .u8 x.f0, .int .u8 x.f1, .int .i64 x.f2, .int .i64 x.f3] 31 (0, 0))
def AxS (line : ByteArray) (fr en : Int) (b : Nat) (x : S31) (a' : Act) (W : World) : Prop :=
  ∃ B, b + 4 ≤ B ∧ Box4 W B x ∧ a' = { tmps := #[.string line, .int .i64 fr, .int .i64 en, undef, undef, undef, .slice none 0 0, .pointer (some ⟨b, 0, none⟩), .pointer (some ⟨B, 0, none⟩), .string line, .int .i64 fr, .int .i64 en, .func (.func 60) #[] #[.pointer (some ⟨b + 1, 0, none⟩), .pointer (some ⟨b + 3, 0, none⟩), .pointer (some ⟨b + 2, 0, none⟩)], encS x, undef, undef, undef, undef, undef], defers := [] }
/-- A world that has more than the call's first four blocks. -/
structure b_lt (w W : World) : Prop where mk :: (out : w.heap.size + 4 < W.heap.size)
theorem KpS.trans {b : Nat} {A B C : World} (h : KpS b A B) (k : KpS b B C) : KpS b A C := ⟨Nat.le_trans h.1 k.1, fun i h1 h2 => (k.2 i h1 h2).trans (h.2 i h1 h2)⟩
theorem KpS.below {b : Nat} {A B : World} (h : Below (b + 4) A B) : KpS b A B := ⟨h.size, fun i h1 _ => h.block i h1⟩
theorem IS.stp {w : World} {b : Nat} (hb : b = w.heap.size) (xs : List S31) (A B : World) (h : IS w b xs A) (hs : Stp (b + 3) A B) : IS w b xs B := by
  obtain ⟨⟨v, h1, h2, -⟩, h3, h4⟩ := h
  refine ⟨⟨v, hs.same h1 (by omega), own_move h2 (fun k hk => hs.block k (own_lt h2 k hk) (by have := own_base h2 k hk; omega)), trivial⟩, ?_, Nat.le_trans h4 hs.size⟩
  exact h3.trans ⟨hs.os, hs.tape, hs.output, hs.size, fun k hk => hs.block k (by have := h3.size; omega) (by omega)⟩
theorem IS.own {w : World} {b n : Nat} (hn : w.heap.size ≤ n) : OwnFrom n (IS w b) :=
  OwnFrom.and (Own.from (holdsRow_own (b + 4) b 27 31 4 (fun xs : List S31 => xs.length) evC (fun _ _ => True)) _) (OwnFrom.and (ownFrom_below (Nat.le_refl _) hn) (fun _ _ _ _ hs hg _ => Nat.le_trans hs hg.size))
theorem AxS.own (line : ByteArray) (fr en : Int) (b n : Nat) (x : S31) (a' : Act) : OwnFrom n (fun (_ : Unit) W => AxS line fr en b x a' W) := by
  rintro s A B row ⟨k, h1, h2, h3⟩ hg hr
  refine ⟨k, h1, (hg.block k (Array.getElem?_eq_some_iff.1 h2).1 (fun e => ?_)).trans h2, h3⟩
  obtain ⟨-, o, ho, hc⟩ := hr k e.symm
  rw [show A.heap[k]? = _ from h2] at ho
  cases ho
  cases hc
set_option maxHeartbeats 4000000 in
set_option maxRecDepth 100000 in
theorem mdcode_Spans.calls (k : Nat) (line : ByteArray) (fr en : Int) (r : List S31) (w : World) (hM : Mx w) (h : mdcode_Spans.f k line fr en = some r) :
    Calls Tryd.prog 13 #[.string line, .int .i64 fr, .int .i64 en] w fun e w' => ∃ v0_ : Value, e = .returned (v0_) ∧ Kd.R k31 31 w' w.heap.size (fun _ => True) v0_ r ∧ Below w.heap.size w w' := by
  unfold mdcode_Spans.f at h
  obtain ⟨⟨al, lf⟩, hah, h⟩ := Option.bind_eq_some_iff.1 h
  obtain ⟨xs, hg, h⟩ := Option.bind_eq_some_iff.1 h
  by_cases hlen : xs.length < 5864062014805
  rotate_left
  · rw [if_neg hlen] at h; cases h
  rw [if_pos hlen] at h
  obtain rfl := Option.some.inj h
  clear h
  dsimp only at hg
  refine callsIn_wide (n := 3).1 ?_
  refine callsIn_of_wp_marks Tryd.func13 rfl trivial ?_ rfl
  simp only [show Tryd.f13.ntmps = 19 from rfl, List.size_toArray, List.length_cons, List.length_nil, Nat.reduceAdd, Nat.reduceSub, Array.replicate_succ, Array.replicate_zero, List.push_toArray, List.append_toArray, List.nil_append, List.cons_append]
  gi_wp2_with (first | (refine ⟨trivial, ?_⟩; gi_at_call 33; refine (callsIn_wide.2 (mdcode_spans.calls line fr en _)).mono ?_; rintro e w' ⟨rfl, rfl⟩))
  obtain ⟨W0, hW0⟩ : ∃ W0, (((w.alloc (.cells #[.slice none 0 0] 27)).alloc (.cells #[.string line] 9)).alloc (.cells #[.int .i64 fr] 3)).alloc (.cells #[.int .i64 en] 3) = W0 := ⟨_, rfl⟩
  have hb0 : 0 < w.heap.size := hM.1
  have hB0 : Below w.heap.size w W0 := by rw [← hW0]; exact ((((Below.refl _ w).alloc (Nat.le_refl _) _).alloc (by simp) _).alloc (by simp; omega) _).alloc (by simp; omega) _
  have hsz : W0.heap.size = w.heap.size + 4 := by rw [← hW0]; simp
  have b0 : Boxed W0 w.heap.size 27 (.slice none 0 0) := by rw [← hW0]; exact (((Boxed.new w _ _).alloc _).alloc _).alloc _
  have b1 : Boxed W0 (w.heap.size + 1) 9 (.string line) := by rw [← hW0]; have := Boxed.new (w.alloc (.cells #[.slice none 0 0] 27)) 9 (.string line); rw [World.size_alloc] at this; exact (this.alloc _).alloc _
  have b2 : Boxed W0 (w.heap.size + 2) 3 (.int .i64 fr) := by rw [← hW0]; have := Boxed.new ((w.alloc (.cells #[.slice none 0 0] 27)).alloc (.cells #[.string line] 9)) 3 (.int .i64 fr); simp only [World.size_alloc] at this; exact this.alloc _
  have b3 : Boxed W0 (w.heap.size + 3) 3 (.int .i64 en) := by rw [← hW0]; have := Boxed.new (((w.alloc (.cells #[.slice none 0 0] 27)).alloc (.cells #[.string line] 9)).alloc (.cells #[.int .i64 fr] 3)) 3 (.int .i64 en); simp only [World.size_alloc] at this; exact this
  try simp only [World.size_alloc, Nat.add_assoc, Nat.reduceAdd]
  rw [hW0]
  clear hW0
  refine range_gives (n := 3) rfl (by omega) (gf := 60) (lb := #[.pointer (some ⟨w.heap.size + 1, 0, none⟩), .pointer (some ⟨w.heap.size + 3, 0, none⟩), .pointer (some ⟨w.heap.size + 2, 0, none⟩)]) rfl trivial (enters_of Tryd.func60 (by kernel_rfl) rfl)
    (spans1_gives line fr en _ al lf k xs w.heap.size W0 2 hah rfl hg (hM.below hB0) hb0 b1 b2 b3) (by omega) (fun h k => h.trans k) (fun W l o o' hl ho hc => ⟨by simp [World.putObj], fun i h1 _ => World.putObj_heap_other (by omega)⟩) (fun _ => rfl)
    (IS w w.heap.size) (IS.stp rfl) (IS.own (by omega)) ⟨⟨_, b0, World.ownsRow_nil _ _ _ _, trivial⟩, hB0, by omega⟩ (AxS line fr en w.heap.size) (AxS.own line fr en w.heap.size _) ?assign ?body ?done
  case assign =>
    rintro l pre x W K ⟨⟨v, hv, hrow, -⟩, hB, hsW⟩ hK
    dsimp only [encS]
    gi_wp2
    exact hK _ _ ((KeepsOthers.alloc _ _).from _) (KpS.below ((Below.refl _ W).alloc hsW _)) ⟨⟨v, hv.alloc _, hrow.alloc _, trivial⟩, hB.alloc hB.size _, by simp; omega⟩ ⟨W.heap.size, hsW, heap_alloc_new W _, rfl⟩
  case body =>
    rintro l pre x a' W ⟨⟨v, hv, hrow, -⟩, hB, hsW⟩ ⟨B, hle, hx, rfl⟩ ⟨rest, hrest⟩
    have hv0 := Aside0.mk hv
    have cv := hv.cell
    have cx0 : W.cell? ⟨B, 0, none⟩ = some (.int .u8 x.f0) := by simp [World.cell?, show W.heap[B]? = _ from hx]
    have cx1 : W.cell? ⟨B, 1, none⟩ = some (.int .u8 x.f1) := by simp [World.cell?, show W.heap[B]? = _ from hx]
    have cx2 : W.cell? ⟨B, 2, none⟩ = some (.int .i64 x.f2) := by simp [World.cell?, show W.heap[B]? = _ from hx]
    have cx3 : W.cell? ⟨B, 3, none⟩ = some (.int .i64 x.f3) := by simp [World.cell?, show W.heap[B]? = _ from hx]
    obtain ⟨i0, hi, hz0, hz1, hz2⟩ := info_parts info31
    have hlt : b_lt w W := ⟨by have := hv.lt; have := (Array.getElem?_eq_some_iff.1 hx).1; omega⟩
    have hpl := Aside0.mk (show pre.length < 5864062014805 by rw [hrest] at hlen; simp at hlen; omega)
    have hrow0 := Aside0.mk hrow
    clear hrow hrest hlen
    gi_wp2_with (gi_at_builtin; refine wpListIn_append_own _ rfl _ _ 27 rfl (w.heap.size + 4) 31 i0 _ 4 24 Tryd.underlying27 hi hz0 hz1 hz2 rfl (by decide) _ _ _ rfl (hrow0.out.alloc _) ⟨W.heap.size, 0, none⟩ 1 1 [.int .u8 x.f0, .int .u8 x.f1, .int .i64 x.f2, .int .i64 x.f3] rfl rfl (World.news_of_block (cs := #[.int .u8 x.f0, .int .u8 x.f1, .int .i64 x.f2, .int .i64 x.f3]) (t := 31) (fr := (0, 0)) (heap_alloc_new W _)) (by intro u hu; simp only [List.mem_cons, List.not_mem_nil, or_false] at hu; rcases hu with rfl | rfl | rfl | rfl <;> rfl) (by have := hpl.out; simp only [maxLen]; omega) (by have := hpl.out; omega) (by have := hlt.out; simp; omega) ?_; intro v' w1 hown' hgrow _; obtain ⟨g', cap', rfl⟩ := ownsRow_succ hown'; obtain ⟨hv1, hv2, -, hk2, hb2⟩ := hv0.out.appended (n₀ := w.heap.size) (by decide) (own_weaken hrow0.out (by omega)) hB.size (Nat.le_refl _) (own_weaken hown' (by omega)) hgrow; have hc1 := hv1.cell; have hf1 := hv1.frozen)
    have hgr : (W.alloc (.cells #[.int .u8 x.f0, .int .u8 x.f1, .int .i64 x.f2, .int .i64 x.f3] 31)).grownBy w1 v.ownBlock := hgrow
    refine ⟨hk2.from _, ⟨hb2.size, fun k hk hne => ?_⟩, ⟨_, hv2, ?_, trivial⟩, hB.trans hb2, Nat.le_trans hsW hb2.size⟩
    · refine (Below.heap_setCell w1 ⟨w.heap.size, 0, none⟩ _ k hne).trans ((hgr.block k (by simp; omega) (fun e => ?_)).trans (Below.heap_alloc _ _ _ (by omega)))
      have := own_base hrow0.out k e.symm
      omega
    · rw [evC_snoc, List.length_append, List.length_singleton]
      exact own_move hown' (fun k hk => Below.heap_setCell w1 ⟨w.heap.size, 0, none⟩ _ k (by have := own_base hown' k hk; show k ≠ w.heap.size; omega))
  case done =>
    rintro D W hD ⟨⟨v, hv, hrow, -⟩, hB, hsW⟩ hK
    have cv := hv.cell
    gi_wp2
    refine ⟨by simp, .inl ⟨_, _, rfl, run_takeDeferred hK, ?_⟩⟩
    exact ⟨_, results_tmp rfl _ _ _, _, rfl, ⟨fun _ _ => trivial, _, own_weaken (ownsRow_putObj hrow _ hK rfl) (by omega), reps_evC _ _ _ _⟩, hB.trans (belowK_b (w := w) (Nat.le_refl _) W D _ _ (by omega) hK rfl rfl)⟩
end Go.Proofs.YtodgioleaegpfaaDoor.P
