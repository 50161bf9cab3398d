/- A contract, walked by hand: mdmark.Rule. Conditions: a text of at most 2^47 bytes. -/
import Derived.Test.YtgeddemohcbojaaDoorHandU
import Derived.Test.YtgeddemohcbojaaDoorHandG
import Derived.Test.YtgeddemohcbojaaDoorHandW
import Derived.Lib.ConvBytes
import Derived.Deep.RegionHeld3
import Derived.Deep.DeepCutAuto
namespace Go.Proofs.YtgeddemohcbojaaDoor.P
open Go.RowKit Go.Proofs.YtgeddemohcbojaaDoorW.PrintWords Go.Proofs.YtgeddemohcbojaaDoorW.PrintLast Go.Proofs.YtgeddemohcbojaaDoorW.PrintMore
set_option linter.unusedVariables false
set_option linter.unusedSimpArgs false
/-- How many of the bytes from k on, m of them, are c; none: another one that is no blank stands there. -/
def ruleGo (s : ByteArray) (c : Int) : Nat → Nat → Nat → Option Nat
  | 0, _, n => some n
  | m + 1, k, n => if bt s k = c then ruleGo s c m (k + 1) (n + 1) else if bt s k = 32 ∨ bt s k = 9 then ruleGo s c m (k + 1) n else none
def ruleRes (c l : Int) : Option Nat → Int × Int × Int × Int × Int × Int × Bool
  | none => noMark
  | some n => if n < 3 then noMark else (c, (n : Int), 0, 0, 0, l, true)
def mdmark_Rule.f (a0 : ByteArray) (a1 : Int) : Option (Int × Int × Int × Int × Int × Int × Bool) :=
  (mdmark_ahead.f a0 a1).bind fun x =>
    if x.2 = true then (if 0 ≤ a1 ∧ a1 < (x.1.size : Int) ∧ x.1.size ≤ 140737488355328 then
      (if 0 ≤ Lib.indexByte [42, 45, 95] (bt x.1 a1).toNat.toUInt8 then
        (mdmark_last.f x.1 a1).bind fun l =>
          if a1 ≤ l ∧ l ≤ (x.1.size : Int) then some (ruleRes (bt x.1 a1) l (ruleGo (x.1.extract a1.toNat l.toNat) (bt x.1 a1) (l.toNat - a1.toNat) 0 0)) else none
      else some noMark) else none) else some noMark
theorem rule_blk {w W1 : World} {cs : Array Value} {t : TypeId} (h : Drawn0 (w.alloc (.cells cs t (0, 0))) W1) : W1.heap[w.heap.size]? = some (.cells cs t (0, 0)) ∧ W1.heap.size = w.heap.size + 1 ∧ Below w.heap.size w W1 := by
  obtain ⟨n, rfl⟩ := h.out
  refine ⟨blk_drewN (blk_new w (.cells cs t (0, 0))) n, by simp, ?_⟩
  with_reducible repeat (first | exact Below.refl _ _ | apply pw_below_drewN | apply below_alloc)
theorem ruleGo_more {e : ByteArray} {c : Int} {m k n : Nat} {R : Option Nat} (h : ruleGo e c (m - k) k n = R) (hk : k < m) : (if bt e k = c then ruleGo e c (m - (k + 1)) (k + 1) (n + 1) else if bt e k = 32 ∨ bt e k = 9 then ruleGo e c (m - (k + 1)) (k + 1) n else none) = R := by
  obtain ⟨d, hd⟩ : ∃ d, m - k = d + 1 := ⟨m - k - 1, by omega⟩
  rw [hd] at h
  rw [show m - (k + 1) = d by omega]
  exact h
theorem ruleGo_end {e : ByteArray} {c : Int} {m k n : Nat} {R : Option Nat} (h : ruleGo e c (m - k) k n = R) (hk : ¬ k < m) : some n = R := by
  rw [show m - k = 0 by omega] at h
  exact h
theorem rule_puts {w : World} {g : Nat} {t : TypeId} {x0 x1 x2 x3 x4 x5 : Value} (h : w.heap[g]? = some (.cells #[x0, x1, x2, x3, x4, x5] t (0, 0))) (y0 y1 y2 y3 y4 y5 : Value) :
    ((((((w.setCell ⟨g, 0, none⟩ y0).setCell ⟨g, 1, none⟩ y1).setCell ⟨g, 2, none⟩ y2).setCell ⟨g, 3, none⟩ y3).setCell ⟨g, 4, none⟩ y4).setCell ⟨g, 5, none⟩ y5).heap[g]? = some (.cells #[y0, y1, y2, y3, y4, y5] t (0, 0)) :=
  blk_put (blk_put (blk_put (blk_put (blk_put (blk_put h 0 y0 rfl) 1 y1 rfl) 2 y2 rfl) 3 y3 rfl) 4 y4 rfl) 5 y5 rfl
theorem rule_far6 {w : World} {b g : Nat} {t : TypeId} {cs : Array Value} (h : w.heap[b]? = some (.cells cs t (0, 0))) (hne : b ≠ g) (y0 y1 y2 y3 y4 y5 : Value) :
    ((((((w.setCell ⟨g, 0, none⟩ y0).setCell ⟨g, 1, none⟩ y1).setCell ⟨g, 2, none⟩ y2).setCell ⟨g, 3, none⟩ y3).setCell ⟨g, 4, none⟩ y4).setCell ⟨g, 5, none⟩ y5).heap[b]? = some (.cells cs t (0, 0)) :=
  blk_far (blk_far (blk_far (blk_far (blk_far (blk_far h hne y0) hne y1) hne y2) hne y3) hne y4) hne y5
theorem rule_below6 {w W : World} {g : Nat} (h : Below w.heap.size w W) (hg : w.heap.size ≤ g) (y0 y1 y2 y3 y4 y5 : Value) :
    Below w.heap.size w ((((((W.setCell ⟨g, 0, none⟩ y0).setCell ⟨g, 1, none⟩ y1).setCell ⟨g, 2, none⟩ y2).setCell ⟨g, 3, none⟩ y3).setCell ⟨g, 4, none⟩ y4).setCell ⟨g, 5, none⟩ y5) :=
  below_set (below_set (below_set (below_set (below_set (below_set h hg) hg) hg) hg) hg) hg
/-- What is known behind '[]byte(s)'. -/
theorem rule_conv {w W : World} {g : Nat} {cs ds : Array Value} {t : TypeId} {s : ByteArray} (k : W.heap[g]? = some (.cells cs t (0, 0))) (r : W.heap[w.heap.size]? = some (.cells ds t (0, 0))) (b : Below w.heap.size w W) :
    (Lib.bytesWorld W 5 s).heap[g]? = some (.cells cs t (0, 0)) ∧ (Lib.bytesWorld W 5 s).heap[w.heap.size]? = some (.cells ds t (0, 0)) ∧ Below w.heap.size w (Lib.bytesWorld W 5 s) ∧ ∀ j, j < s.size → (Lib.bytesWorld W 5 s).cell? ⟨W.heap.size, j, none⟩ = some (.int .u8 (bt s j)) :=
  ⟨(Lib.bytesWorld_at_old W 5 s g (blk_lt k)).trans k, (Lib.bytesWorld_at_old W 5 s _ (blk_lt r)).trans r, below_bytes b 5 s, bytes_cells W 5 s _ rfl⟩
set_option maxHeartbeats 2000000 in
set_option maxRecDepth 100000 in
theorem rule_none (a0 : ByteArray) (a1 : Int) (s : ByteArray) (w : World) (hx : mdmark_ahead.f a0 a1 = some (s, false)) :
    Calls Tryd.prog 21 #[.string a0, .int .i64 a1] w fun e w' => e = .returned (.tuple #[.agg #[.int .u8 0, .int .i64 0, .int .i64 0, .int .i64 0, .int .i64 0, .int .i64 0], .bool false]) ∧ Below w.heap.size w w' := by
  have c1 := Lib.hid (fun W => mdmark_ahead.calls a0 a1 s false W hx)
  have hu := Tryd.underlying23
  go_enter Tryd.func21, Tryd.ntmps21
  go_wp2_with (go_at_call 26; refine (c1.out _).mono ?_; rintro e W1 ⟨rfl, hd⟩; obtain ⟨k1, z1, b1⟩ := rule_blk hd; clear hd; have K1 := Lib.hid k1; have B1 := Lib.hid b1; have C0 := blk_cell k1 0; have C1 := blk_cell k1 1; have C2 := blk_cell k1 2; have C3 := blk_cell k1 3; have C4 := blk_cell k1 4; have C5 := blk_cell k1 5; have F0 := blk_frozen k1 0; have F1 := blk_frozen k1 1; have F2 := blk_frozen k1 2; have F3 := blk_frozen k1 3; have F4 := blk_frozen k1 4; have F5 := blk_frozen k1 5; clear k1 b1)
  refine bodyPost_ret (results_ct rfl _ _ (w.heap.size) 23 #[.int .u8 0, .int .i64 0, .int .i64 0, .int .i64 0, .int .i64 0, .int .i64 0] (0, 0) _ rfl ?hk Tryd.underlying23 rfl (by kernel_rfl)) rfl ⟨rfl, ?_⟩
  case hk =>
    refine blk_put (cs := #[.int .u8 0, .int .i64 0, .int .i64 0, .int .i64 0, .int .i64 0, .int .i64 0]) ?_ 5 _ rfl
    refine blk_put (cs := #[.int .u8 0, .int .i64 0, .int .i64 0, .int .i64 0, .int .i64 0, .int .i64 0]) ?_ 4 _ rfl
    refine blk_put (cs := #[.int .u8 0, .int .i64 0, .int .i64 0, .int .i64 0, .int .i64 0, .int .i64 0]) ?_ 3 _ rfl
    refine blk_put (cs := #[.int .u8 0, .int .i64 0, .int .i64 0, .int .i64 0, .int .i64 0, .int .i64 0]) ?_ 2 _ rfl
    refine blk_put (cs := #[.int .u8 0, .int .i64 0, .int .i64 0, .int .i64 0, .int .i64 0, .int .i64 0]) ?_ 1 _ rfl
    exact blk_put (cs := #[.int .u8 0, .int .i64 0, .int .i64 0, .int .i64 0, .int .i64 0, .int .i64 0]) K1.out 0 _ rfl
  · with_reducible repeat (first | exact B1.out | apply below_alloc | apply pw_below_drewN | apply below_drew1 | refine below_set ?_ (Nat.le_refl _))
set_option maxHeartbeats 2000000 in
set_option maxRecDepth 100000 in
theorem rule_other (a0 : ByteArray) (a : Nat) (s : ByteArray) (w : World) (hx : mdmark_ahead.f a0 a = some (s, true)) (hlt : a < s.size) (hs : s.size ≤ 140737488355328) (hc : ¬ 0 ≤ Lib.indexByte [42, 45, 95] (bt s a).toNat.toUInt8) :
    Calls Tryd.prog 21 #[.string a0, .int .i64 a] w fun e w' => e = .returned (.tuple #[.agg #[.int .u8 0, .int .i64 0, .int .i64 0, .int .i64 0, .int .i64 0, .int .i64 0], .bool false]) ∧ Below w.heap.size w w' := by
  have c1 := Lib.hid (fun W => mdmark_ahead.calls a0 a s true W hx)
  have c5 := Lib.hid (fun W => strings_IndexByte.calls ⟨#[42, 45, 95]⟩ (bt s a) _ W rfl)
  have hi' : decide (Lib.indexByte [42, 45, 95] (bt s a).toNat.toUInt8 < 0) = true := decide_eq_true (by omega)
  change Hid (∀ W, Calls Tryd.prog 40 _ W fun e w' => e = .returned (.int .i64 (Lib.indexByte [42, 45, 95] (bt s a).toNat.toUInt8)) ∧ Drawn0 W w') at c5
  generalize Lib.indexByte [42, 45, 95] (bt s a).toNat.toUInt8 = ix at c5 hi'
  clear hc
  have hu := Tryd.underlying23
  have E : ((s[a]'hlt).toNat : Int) = bt s a := by simpa using bt_at s a (by omega)
  go_enter Tryd.func21, Tryd.ntmps21
  go_wp2_with (first | (go_at_call 26; refine (c1.out _).mono ?_; rintro e W1 ⟨rfl, hd⟩; obtain ⟨k1, z1, b1⟩ := rule_blk hd; clear hd; have K1 := Lib.hid k1; have B1 := Lib.hid b1; clear k1 b1) | (go_at_call 40; refine (c5.out _).mono ?_; rintro e W2 ⟨rfl, hd2⟩; have k2 := blk_below K1.out hd2.below; have b2 := below_step B1.out hd2.below; clear hd2; have K2 := Lib.hid k2; have B2 := Lib.hid b2; have C0 := blk_cell k2 0; have C1 := blk_cell k2 1; have C2 := blk_cell k2 2; have C3 := blk_cell k2 3; have C4 := blk_cell k2 4; have C5 := blk_cell k2 5; have F0 := blk_frozen k2 0; have F1 := blk_frozen k2 1; have F2 := blk_frozen k2 2; have F3 := blk_frozen k2 3; have F4 := blk_frozen k2 4; have F5 := blk_frozen k2 5; clear k2 b2))
  refine bodyPost_ret (results_ct rfl _ _ (w.heap.size) 23 #[.int .u8 0, .int .i64 0, .int .i64 0, .int .i64 0, .int .i64 0, .int .i64 0] (0, 0) _ rfl ?hk Tryd.underlying23 rfl (by kernel_rfl)) rfl ⟨rfl, ?_⟩
  case hk =>
    refine blk_put (cs := #[.int .u8 0, .int .i64 0, .int .i64 0, .int .i64 0, .int .i64 0, .int .i64 0]) ?_ 5 _ rfl
    refine blk_put (cs := #[.int .u8 0, .int .i64 0, .int .i64 0, .int .i64 0, .int .i64 0, .int .i64 0]) ?_ 4 _ rfl
    refine blk_put (cs := #[.int .u8 0, .int .i64 0, .int .i64 0, .int .i64 0, .int .i64 0, .int .i64 0]) ?_ 3 _ rfl
    refine blk_put (cs := #[.int .u8 0, .int .i64 0, .int .i64 0, .int .i64 0, .int .i64 0, .int .i64 0]) ?_ 2 _ rfl
    refine blk_put (cs := #[.int .u8 0, .int .i64 0, .int .i64 0, .int .i64 0, .int .i64 0, .int .i64 0]) ?_ 1 _ rfl
    exact blk_put (cs := #[.int .u8 0, .int .i64 0, .int .i64 0, .int .i64 0, .int .i64 0, .int .i64 0]) K2.out 0 _ rfl
  · with_reducible repeat (first | exact B2.out | apply below_alloc | apply pw_below_drewN | apply below_drew1 | refine below_set ?_ (Nat.le_refl _))
/-- Behind Rule's first mark: where it lies, and that the result is as it was. -/
def RuleM (w : World) (cs : Array Value) (v : Value) (W : World) : Prop :=
  ∃ g, v = .pointer (some ⟨g, 0, none⟩) ∧ w.heap.size < g ∧ W.heap[g]? = some (.cells cs 23 (0, 0)) ∧ W.heap[w.heap.size]? = some (.cells #[.int .u8 0, .int .i64 0, .int .i64 0, .int .i64 0, .int .i64 0, .int .i64 0] 23 (0, 0)) ∧ Below w.heap.size w W
/-- Behind a round. -/
def RuleL (w : World) (e : ByteArray) (c : Int) (m l g b : Nat) (R : Option Nat) (i : Value) (W : World) : Prop :=
  ∃ k n : Nat, k ≤ m ∧ i = .int .i64 k ∧ n ≤ k ∧ ruleGo e c (m - k) k n = R ∧ W.heap[g]? = some (.cells #[.int .u8 c, .int .i64 (n : Int), .int .i64 0, .int .i64 0, .int .i64 0, .int .i64 (l : Int)] 23 (0, 0)) ∧ W.heap[w.heap.size]? = some (.cells #[.int .u8 0, .int .i64 0, .int .i64 0, .int .i64 0, .int .i64 0, .int .i64 0] 23 (0, 0)) ∧ Below w.heap.size w W ∧ ∀ j : Nat, j < m → W.cell? ⟨b, j, none⟩ = some (.int .u8 (bt e j))
set_option maxHeartbeats 2000000 in
set_option maxRecDepth 100000 in
theorem rule_long (a0 : ByteArray) (a l : Nat) (s : ByteArray) (c : Int) (w : World) (hx : mdmark_ahead.f a0 a = some (s, true)) (hlt : a < s.size) (hs : s.size ≤ 140737488355328) (hcc : bt s a = c) (hc : 0 ≤ Lib.indexByte [42, 45, 95] c.toNat.toUInt8) (hl : mdmark_last.f s a = some (l : Int)) (hal : a ≤ l) (hls : l ≤ s.size) :
    Calls Tryd.prog 21 #[.string a0, .int .i64 a] w fun e w' => (e = .returned (.tuple #[.agg #[.int .u8 (ruleRes c l (ruleGo (s.extract a l) c (l - a) 0 0)).1, .int .i64 (ruleRes c l (ruleGo (s.extract a l) c (l - a) 0 0)).2.1, .int .i64 (ruleRes c l (ruleGo (s.extract a l) c (l - a) 0 0)).2.2.1, .int .i64 (ruleRes c l (ruleGo (s.extract a l) c (l - a) 0 0)).2.2.2.1, .int .i64 (ruleRes c l (ruleGo (s.extract a l) c (l - a) 0 0)).2.2.2.2.1, .int .i64 (ruleRes c l (ruleGo (s.extract a l) c (l - a) 0 0)).2.2.2.2.2.1], .bool (ruleRes c l (ruleGo (s.extract a l) c (l - a) 0 0)).2.2.2.2.2.2])) ∧ Below w.heap.size w w' := by
  have c1 := Lib.hid (fun W => mdmark_ahead.calls a0 a s true W hx)
  have c3 := Lib.hid (fun W => mdmark_last.calls s a l W hl)
  have c5 := Lib.hid (fun W => strings_IndexByte.calls ⟨#[42, 45, 95]⟩ c _ W rfl)
  have hi' : decide (Lib.indexByte [42, 45, 95] c.toNat.toUInt8 < 0) = false := decide_eq_false (by omega)
  change Hid (∀ W, Calls Tryd.prog 40 _ W fun e w' => e = .returned (.int .i64 (Lib.indexByte [42, 45, 95] c.toNat.toUInt8)) ∧ Drawn0 W w') at c5
  generalize Lib.indexByte [42, 45, 95] c.toNat.toUInt8 = ix at c5 hi'
  clear hc hl
  have hu := Tryd.underlying23
  have hz : (s.extract a l).size = l - a := by rw [ByteArray.size_extract]; omega
  obtain ⟨m, hm⟩ : ∃ m, l - a = m := ⟨_, rfl⟩
  have hmb : m ≤ 140737488355328 := by omega
  rw [hm] at hz ⊢
  have E : ((s[a]'hlt).toNat : Int) = c := by rw [← hcc]; simpa using bt_at s a (by omega)
  have i0 : (0 : Int) ≤ (a : Int) := by omega
  have i1 : (a : Int) < (s.size : Int) := by omega
  have i2 : (a : Int) ≤ (l : Int) := by omega
  have i3 : (l : Int) ≤ (s.size : Int) := by omega
  generalize hR : ruleGo (s.extract a l) c m 0 0 = R
  generalize he : s.extract a l = e at hz hR
  have kc := fun (W : World) => Lib.run_convert_string_bytes (P := Tryd.prog) W 9 32 5 e Tryd.underlying9 Tryd.underlying32 Tryd.underlying5
  have HR := Lib.hid hR
  clear hR hm
  go_enter Tryd.func21, Tryd.ntmps21
  go_upto_region 4 with (go_at_call 26; refine (c1.out _).mono ?_; rintro e W1 ⟨rfl, hd⟩; obtain ⟨k1, z1, b1⟩ := rule_blk hd; clear hd; have K1 := Lib.hid k1; have B1 := Lib.hid b1; clear k1 b1)
  go_at_call 40
  refine (c5.out _).mono ?_
  rintro e W2 ⟨rfl, hd2⟩
  have k2 := blk_below K1.out hd2.below
  have b2 := below_step B1.out hd2.below
  have K2 := Lib.hid k2
  have B2 := Lib.hid b2
  have z2 : w.heap.size < W2.heap.size := by have h3 := hd2.below.size; omega
  clear hd2 z1 k2 b2
  go_upto_region 4 with fail
  go_cut [8] (RuleM w #[.int .u8 c, .int .i64 0, .int .i64 0, .int .i64 0, .int .i64 0, .int .i64 (l : Int)])
  case first =>
    go_region_held3 (fun _ => True) (trivial) (first | (go_at_call 30; refine (c3.out _).mono ?_; rintro e W3 ⟨rfl, hb3⟩; (try (have k3 : W3.heap[W2.heap.size]? = some (.cells #[.int .u8 0, .int .i64 0, .int .i64 0, .int .i64 0, .int .i64 0, .int .i64 0] 23 (0, 0)) := by (with_reducible first | exact blk_below (blk_new _ _) hb3 | exact blk_below (blk_drew (blk_new _ _)) hb3)); have C0 := blk_cell k3 0; have C1 := blk_cell k3 1; have C2 := blk_cell k3 2; have C3 := blk_cell k3 3; have C4 := blk_cell k3 4; have C5 := blk_cell k3 5; have F0 := blk_frozen k3 0; have F1 := blk_frozen k3 1; have F2 := blk_frozen k3 2; have F3 := blk_frozen k3 3; have F4 := blk_frozen k3 4; have F5 := blk_frozen k3 5); have r3 := (show Hid (W3.heap[w.heap.size]? = some (.cells #[.int .u8 0, .int .i64 0, .int .i64 0, .int .i64 0, .int .i64 0, .int .i64 0] 23 (0, 0))) from Lib.hid (by (with_reducible first | exact blk_below K2.out hb3 | exact blk_below (blk_drew K2.out) hb3 | exact blk_below (blk_drew (blk_alloc K2.out _)) hb3 | exact blk_below (blk_alloc K2.out _) hb3))); have b3 := (show Hid (Below w.heap.size w W3) from Lib.hid (by (with_reducible first | exact below_step B2.out hb3 | exact below_step (below_drew1 B2.out) hb3 | exact below_step (below_drew1 (below_alloc B2.out _)) hb3 | exact below_step (below_alloc B2.out _) hb3))); have z3 : w.heap.size < W3.heap.size := (by have h3 := hb3.size; simp at h3; omega); clear hb3))
    all_goals (go_wp2_with fail; go_meet)
    all_goals (unfold RuleM; with_reducible first
      | exact ⟨W3.heap.size, rfl, z3, blk_new _ _, blk_alloc r3.out _, below_alloc b3.out _⟩
      | exact ⟨W2.heap.size, rfl, z2, rule_puts k3 .., rule_far6 r3.out (by omega) .., rule_below6 b3.out (by omega) ..⟩)
  case rest =>
    clear c3 c5 c1 K1 K2 B1 B2 z2
    obtain ⟨g, rfl, hg, kM, kR, bW⟩ := hcut
    have KM := Lib.hid kM
    have KR := Lib.hid kR
    have BW := Lib.hid bW
    have hgs := blk_lt kM
    have C0 := blk_cell kM 0; have C1 := blk_cell kM 1; have C2 := blk_cell kM 2; have C3 := blk_cell kM 3; have C4 := blk_cell kM 4; have C5 := blk_cell kM 5; have F0 := blk_frozen kM 0; have F1 := blk_frozen kM 1; have F2 := blk_frozen kM 2; have F3 := blk_frozen kM 3; have F4 := blk_frozen kM 4; have F5 := blk_frozen kM 5
    clear kM kR bW
    have D := rule_conv (s := e) KM.out KR.out BW.out
    have D0 := Lib.hid D
    go_wp2
    go_loopw [41] (fun i wr => RuleL w e c m l g wc.heap.size R i wr) (fun i _ => m - (intOf i).toNat)
    case atStart => exact ⟨0, 0, Nat.zero_le _, rfl, Nat.le_refl _, HR.out, D0.out.1, D0.out.2.1, D0.out.2.2.1, fun j hj => D0.out.2.2.2 j (by rw [hz]; exact hj)⟩
    case round =>
      clear D D0 C0 C1 C2 C3 C4 C5 F0 F1 F2 F3 F4 F5 KM KR BW kc E
      obtain ⟨k, n, hk, rfl, hn, hgo, kM, kR, bW, hC⟩ := hrel
      have HG := Lib.hid hgo
      have KM := Lib.hid kM
      have KR := Lib.hid kR
      have BW := Lib.hid bW
      have HC := Lib.hid hC
      have C0 := blk_cell kM 0; have C1 := blk_cell kM 1; have C2 := blk_cell kM 2; have C3 := blk_cell kM 3; have C4 := blk_cell kM 4; have C5 := blk_cell kM 5; have F0 := blk_frozen kM 0; have F1 := blk_frozen kM 1; have F2 := blk_frozen kM 2; have F3 := blk_frozen kM 3; have F4 := blk_frozen kM 4; have F5 := blk_frozen kM 5
      have R0 := blk_cell kR 0; have R1 := blk_cell kR 1; have R2 := blk_cell kR 2; have R3 := blk_cell kR 3; have R4 := blk_cell kR 4; have R5 := blk_cell kR 5; have G0 := blk_frozen kR 0; have G1 := blk_frozen kR 1; have G2 := blk_frozen kR 2; have G3 := blk_frozen kR 3; have G4 := blk_frozen kR 4; have G5 := blk_frozen kR 5
      clear hgo hC kM kR bW
      by_cases hlk : k < m
      · obtain ⟨y, hy⟩ : ∃ y, bt e k = y := ⟨_, rfl⟩
        have Cy : wr.cell? ⟨wc.heap.size, k, none⟩ = some (.int .u8 y) := hy ▸ HC.out k hlk
        have HM := Lib.hid (ruleGo_more HG.out hlk)
        have HY := Lib.hid hy
        clear hy
        have d1 : decide ((k : Int) < (m : Int)) = true := decide_eq_true (by omega)
        have d2 : decide (k < m) = true := decide_eq_true hlk
        have more : ∀ n' : Nat, n' ≤ k + 1 → ruleGo e c (m - (k + 1)) (k + 1) n' = R → ∀ W : World, W.heap[g]? = some (.cells #[.int .u8 c, .int .i64 (n' : Int), .int .i64 0, .int .i64 0, .int .i64 0, .int .i64 (l : Int)] 23 (0, 0)) → W.heap[w.heap.size]? = some (.cells #[.int .u8 0, .int .i64 0, .int .i64 0, .int .i64 0, .int .i64 0, .int .i64 0] 23 (0, 0)) → Below w.heap.size w W → (∀ j : Nat, W.cell? ⟨wc.heap.size, j, none⟩ = wr.cell? ⟨wc.heap.size, j, none⟩) → RuleL w e c m l g wc.heap.size R (.int .i64 ((k : Int) + 1)) W := fun n' h1 h2 W h3 h4 h5 h6 =>
          ⟨k + 1, n', hlk, by go_num, h1, h2, h3, h4, h5, fun j hj => (h6 j).trans (HC.out j hj)⟩
        have HMO := Lib.hid more
        clear more
        by_cases h1 : y = c
        · have e1 : (y == c) = true := beq_iff_eq.2 h1
          have HE := Lib.hid h1
          clear h1
          go_wp2
          go_roundw
          case rel => exact HMO.out (n + 1) (by omega) (by have := HM.out; rwa [if_pos (HY.out.trans HE.out)] at this) _ (blk_put KM.out 1 _ (by simp)) (blk_far KR.out (show w.heap.size ≠ g by omega) _) (below_set BW.out (by omega)) (fun j => by simp [World.cell?, World.setCell, Array.getElem?_modify, show g ≠ wc.heap.size by omega])
          case measure => simp [intOf]; omega
        · have e1 : (y == c) = false := beq_eq_false_iff_ne.2 h1
          by_cases h2 : y = 32 ∨ y = 9
          · have HS : Hid (ruleGo e c (m - (k + 1)) (k + 1) n = R) := Lib.hid (by have := HM.out; rwa [if_neg (by rw [HY.out]; exact h1), if_pos (by rw [HY.out]; exact h2)] at this)
            rcases h2 with h2 | h2
            · have e2 : (y != 32) = false := bne_eq_false_iff_eq.2 h2
              clear h1 h2
              go_wp2
              go_roundw
              case rel => exact HMO.out n (by omega) HS.out _ KM.out KR.out BW.out (fun j => rfl)
              case measure => simp [intOf]; omega
            · have e2 : (y != 32) = true := bne_iff_ne.2 (by omega)
              have e3 : (y != 9) = false := bne_eq_false_iff_eq.2 h2
              clear h1 h2
              go_wp2
              go_roundw
              case rel => exact HMO.out n (by omega) HS.out _ KM.out KR.out BW.out (fun j => rfl)
              case measure => simp [intOf]; omega
          · have e2 : (y != 32) = true := bne_iff_ne.2 (by omega)
            have e3 : (y != 9) = true := bne_iff_ne.2 (by omega)
            have HN : Hid (none = R) := Lib.hid (by have := HM.out; rwa [if_neg (by rw [HY.out]; exact h1), if_neg (by rw [HY.out]; exact h2)] at this)
            clear h1 h2
            go_wp2
            refine bodyPost_ret (results_ct rfl _ _ (w.heap.size) 23 #[.int .u8 0, .int .i64 0, .int .i64 0, .int .i64 0, .int .i64 0, .int .i64 0] (0, 0) _ rfl ?hk Tryd.underlying23 rfl (by kernel_rfl)) rfl ⟨by rw [← HN.out]; rfl, ?_⟩
            case hk =>
              refine blk_put (cs := #[.int .u8 0, .int .i64 0, .int .i64 0, .int .i64 0, .int .i64 0, .int .i64 0]) ?_ 5 _ rfl
              refine blk_put (cs := #[.int .u8 0, .int .i64 0, .int .i64 0, .int .i64 0, .int .i64 0, .int .i64 0]) ?_ 4 _ rfl
              refine blk_put (cs := #[.int .u8 0, .int .i64 0, .int .i64 0, .int .i64 0, .int .i64 0, .int .i64 0]) ?_ 3 _ rfl
              refine blk_put (cs := #[.int .u8 0, .int .i64 0, .int .i64 0, .int .i64 0, .int .i64 0, .int .i64 0]) ?_ 2 _ rfl
              refine blk_put (cs := #[.int .u8 0, .int .i64 0, .int .i64 0, .int .i64 0, .int .i64 0, .int .i64 0]) ?_ 1 _ rfl
              exact blk_put (cs := #[.int .u8 0, .int .i64 0, .int .i64 0, .int .i64 0, .int .i64 0, .int .i64 0]) KR.out 0 _ rfl
            · with_reducible repeat (first | exact BW.out | apply below_alloc | apply pw_below_drewN | apply below_drew1 | refine below_set ?_ (Nat.le_refl _))
      · have HN := Lib.hid (ruleGo_end HG.out hlk)
        have d1 : decide ((k : Int) < (m : Int)) = false := decide_eq_false (by omega)
        have d2 : decide (k < m) = false := decide_eq_false hlk
        by_cases h3 : n < 3
        · have d3 : decide ((n : Int) < 3) = true := decide_eq_true (by omega)
          go_wp2
          refine bodyPost_ret (results_ct rfl _ _ (w.heap.size) 23 #[.int .u8 0, .int .i64 0, .int .i64 0, .int .i64 0, .int .i64 0, .int .i64 0] (0, 0) _ rfl ?hk Tryd.underlying23 rfl (by kernel_rfl)) rfl ⟨by rw [← HN.out]; simp only [ruleRes, if_pos h3]; rfl, ?_⟩
          case hk =>
            refine blk_put (cs := #[.int .u8 0, .int .i64 0, .int .i64 0, .int .i64 0, .int .i64 0, .int .i64 0]) ?_ 5 _ rfl
            refine blk_put (cs := #[.int .u8 0, .int .i64 0, .int .i64 0, .int .i64 0, .int .i64 0, .int .i64 0]) ?_ 4 _ rfl
            refine blk_put (cs := #[.int .u8 0, .int .i64 0, .int .i64 0, .int .i64 0, .int .i64 0, .int .i64 0]) ?_ 3 _ rfl
            refine blk_put (cs := #[.int .u8 0, .int .i64 0, .int .i64 0, .int .i64 0, .int .i64 0, .int .i64 0]) ?_ 2 _ rfl
            refine blk_put (cs := #[.int .u8 0, .int .i64 0, .int .i64 0, .int .i64 0, .int .i64 0, .int .i64 0]) ?_ 1 _ rfl
            exact blk_put (cs := #[.int .u8 0, .int .i64 0, .int .i64 0, .int .i64 0, .int .i64 0, .int .i64 0]) KR.out 0 _ rfl
          · with_reducible repeat (first | exact BW.out | apply below_alloc | apply pw_below_drewN | apply below_drew1 | refine below_set ?_ (Nat.le_refl _))
        · have d3 : decide ((n : Int) < 3) = false := decide_eq_false (by omega)
          go_wp2
          refine bodyPost_ret (results_ct rfl _ _ (w.heap.size) 23 #[.int .u8 (c), .int .i64 ((n : Int)), .int .i64 0, .int .i64 0, .int .i64 0, .int .i64 ((l : Int))] (0, 0) _ rfl ?hk Tryd.underlying23 rfl (by kernel_rfl)) rfl ⟨by rw [← HN.out]; simp only [ruleRes, if_neg h3]; rfl, ?_⟩
          case hk =>
            refine blk_put (cs := #[.int .u8 (c), .int .i64 ((n : Int)), .int .i64 0, .int .i64 0, .int .i64 0, .int .i64 0]) ?_ 5 _ rfl
            refine blk_put (cs := #[.int .u8 (c), .int .i64 ((n : Int)), .int .i64 0, .int .i64 0, .int .i64 0, .int .i64 0]) ?_ 4 _ rfl
            refine blk_put (cs := #[.int .u8 (c), .int .i64 ((n : Int)), .int .i64 0, .int .i64 0, .int .i64 0, .int .i64 0]) ?_ 3 _ rfl
            refine blk_put (cs := #[.int .u8 (c), .int .i64 ((n : Int)), .int .i64 0, .int .i64 0, .int .i64 0, .int .i64 0]) ?_ 2 _ rfl
            refine blk_put (cs := #[.int .u8 (c), .int .i64 0, .int .i64 0, .int .i64 0, .int .i64 0, .int .i64 0]) ?_ 1 _ rfl
            exact blk_put (cs := #[.int .u8 0, .int .i64 0, .int .i64 0, .int .i64 0, .int .i64 0, .int .i64 0]) KR.out 0 _ rfl
          · with_reducible repeat (first | exact BW.out | apply below_alloc | apply pw_below_drewN | apply below_drew1 | refine below_set ?_ (Nat.le_refl _))
theorem mdmark_Rule.calls (a0 : ByteArray) (a1 : Int) (r1 : Int) (r2 : Int) (r3 : Int) (r4 : Int) (r5 : Int) (r6 : Int) (r7 : Bool) (w : World) (h : mdmark_Rule.f a0 a1 = some (r1, r2, r3, r4, r5, r6, r7)) :
    Calls Tryd.prog 21 #[.string a0, .int .i64 a1] w fun e w' => e = .returned (.tuple #[.agg #[.int .u8 r1, .int .i64 r2, .int .i64 r3, .int .i64 r4, .int .i64 r5, .int .i64 r6], .bool r7]) ∧ Below w.heap.size w w' := by
  unfold mdmark_Rule.f at h
  obtain ⟨⟨s, ok⟩, hx, h⟩ := Option.bind_eq_some_iff.mp h
  cases ok with
  | false =>
    have h' : noMark = (r1, r2, r3, r4, r5, r6, r7) := by simpa using h
    simp only [noMark, Prod.mk.injEq] at h'
    obtain ⟨rfl, rfl, rfl, rfl, rfl, rfl, rfl⟩ := h'
    exact rule_none a0 a1 s w hx
  | true =>
    by_cases hb : 0 ≤ a1 ∧ a1 < (s.size : Int) ∧ s.size ≤ 140737488355328
    rotate_left
    · simp [hb] at h
    obtain ⟨h0, hlt, hs⟩ := hb
    obtain ⟨a, rfl⟩ := Int.eq_ofNat_of_zero_le h0
    have hlt' : a < s.size := by omega
    simp only [h0, hlt, hs, and_self, if_true, Int.toNat_natCast] at h
    by_cases hi : 0 ≤ Lib.indexByte [42, 45, 95] (bt s a).toNat.toUInt8
    · rw [if_pos hi] at h
      obtain ⟨l, hl, h⟩ := Option.bind_eq_some_iff.mp h
      by_cases hb : (a : Int) ≤ l ∧ l ≤ (s.size : Int)
      · rw [if_pos hb] at h
        obtain ⟨l, rfl⟩ := Int.eq_ofNat_of_zero_le (show 0 ≤ l by omega)
        have h' := Option.some.inj h
        have := rule_long a0 a l s _ w hx hlt' hs rfl hi hl (by omega) (by omega)
        rw [Int.toNat_natCast] at h'
        rw [h'] at this
        exact this
      · rw [if_neg hb] at h; cases h
    · rw [if_neg hi] at h
      simp only [noMark, Option.some.injEq, Prod.mk.injEq] at h
      obtain ⟨rfl, rfl, rfl, rfl, rfl, rfl, rfl⟩ := h
      exact rule_other a0 a s w hx hlt' hs hi
end Go.Proofs.YtgeddemohcbojaaDoor.P
