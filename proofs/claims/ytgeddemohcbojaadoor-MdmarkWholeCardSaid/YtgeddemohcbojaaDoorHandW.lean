/- A contract, walked by hand: mdmark.Fence. Conditions: a text of at most 2^47 bytes. -/
import Derived.Test.YtgeddemohcbojaaDoorHandU
import Derived.Test.YtgeddemohcbojaaDoorHandG
import Derived.Lib.ConvBytes
import Derived.Deep.RegionHeld3
namespace Go.Proofs.YtgeddemohcbojaaDoor.P
open Go.RowKit Go.Proofs.YtgeddemohcbojaaDoorW.PrintWords Go.Proofs.YtgeddemohcbojaaDoorW.PrintLast Go.Proofs.YtgeddemohcbojaaDoorW.PrintMore
set_option linter.unusedVariables false
set_option linter.unusedSimpArgs false
theorem bytes_cells (W : World) (e : TypeId) (s : ByteArray) (g : Nat) (hg : g = W.heap.size) : ∀ j, j < s.size → (Lib.bytesWorld W e s).cell? ⟨g, j, none⟩ = some (.int .u8 (bt s j)) := by
  intro j hj
  subst hg
  rw [Lib.bytesWorld_cell W e s j hj]
  have := bt_at s j (by simpa using hj)
  rw [← this]
  simp [List.getD, hj]
  rfl
theorem below_bytes {w W : World} (h : Below w.heap.size w W) (e : TypeId) (s : ByteArray) : Below w.heap.size w (Lib.bytesWorld W e s) :=
  below_step h ⟨rfl, rfl, rfl, by rw [Lib.bytesWorld_size]; omega, fun j hj => Lib.bytesWorld_at_old W e s j hj⟩
/-- What Fence's walk knows of the world behind its '[]byte(s)'. -/
theorem fence_two {w W1 : World} {u : Value} {cs : Array Value} {s : ByteArray} (z : W1.heap.size = w.heap.size + 1 + 1) (k : W1.heap[w.heap.size + 1]? = some (.cells cs 23 (0, 0))) (A : W1.cell? ⟨w.heap.size, 0, none⟩ = some u) (b : Below w.heap.size w W1) :
    (∀ j, j < s.size → (Lib.bytesWorld (W1.alloc (.cells #[.string s] 9 (0, 0))) 5 s).cell? ⟨w.heap.size + 1 + 1 + 1, j, none⟩ = some (.int .u8 (bt s j))) ∧ (Lib.bytesWorld (W1.alloc (.cells #[.string s] 9 (0, 0))) 5 s).cell? ⟨w.heap.size + 1 + 1, 0, none⟩ = some (.string s) ∧
    (Lib.bytesWorld (W1.alloc (.cells #[.string s] 9 (0, 0))) 5 s).cell? ⟨w.heap.size, 0, none⟩ = some u ∧ (Lib.bytesWorld (W1.alloc (.cells #[.string s] 9 (0, 0))) 5 s).heap[w.heap.size + 1]? = some (.cells cs 23 (0, 0)) ∧ Below w.heap.size w (Lib.bytesWorld (W1.alloc (.cells #[.string s] 9 (0, 0))) 5 s) := by
  have hz : (W1.alloc (.cells #[.string s] 9 (0, 0))).heap.size = w.heap.size + 1 + 1 + 1 := by simp [z]
  have hb : Below W1.heap.size W1 (W1.alloc (.cells #[.string s] 9 (0, 0))) := by with_reducible repeat (first | exact Below.refl _ _ | apply below_alloc)
  refine ⟨bytes_cells _ 5 s _ hz.symm, ?_, ?_, ?_, below_bytes (below_alloc b _) 5 s⟩
  · rw [Lib.bytesWorld_old _ _ _ _ (by show w.heap.size + 1 + 1 < _; omega)]
    have := blk_cell (blk_new W1 (.cells #[.string s] 9 (0, 0))) 0
    rw [z] at this
    exact this
  · rw [Lib.bytesWorld_old _ _ _ _ (by show w.heap.size < _; omega)]
    exact (hb.cell (p := ⟨w.heap.size, 0, none⟩) (show w.heap.size < W1.heap.size by omega)).trans A
  · rw [Lib.bytesWorld_at_old _ _ _ _ (by omega)]
    exact blk_alloc k _
theorem far_set {W : World} {p q : Addr} {v u : Value} (h : W.cell? p = some v) (hne : p.block ≠ q.block) : (W.setCell q u).cell? p = some v := by
  unfold World.cell? at h ⊢
  rw [Below.heap_setCell W q u p.block (by first | exact hne | exact Ne.symm hne)]
  exact h
theorem far_set6 {W : World} {b g : Nat} {v u0 u1 u2 u3 u4 u5 : Value} (h : W.cell? ⟨b, 0, none⟩ = some v) (hne : b ≠ g) : ((((((W.setCell ⟨g, 0, none⟩ u0).setCell ⟨g, 1, none⟩ u1).setCell ⟨g, 2, none⟩ u2).setCell ⟨g, 3, none⟩ u3).setCell ⟨g, 4, none⟩ u4).setCell ⟨g, 5, none⟩ u5).cell? ⟨b, 0, none⟩ = some v :=
  far_set (far_set (far_set (far_set (far_set (far_set h hne) hne) hne) hne) hne) hne
theorem UnderS.drawn {w W W' : World} {s : ByteArray} {a : Nat} {cs : Array Value} (h : UnderS w s a cs W) (hd : Drawn0 W W') : UnderS w s a cs W' := h.below hd.below
def mdmark_Fence.f (a0 : ByteArray) (a1 : Int) : Option (Int × Int × Int × Int × Int × Int × Bool) :=
  (mdmark_ahead.f a0 a1).bind fun x =>
    if x.2 = true then (if 0 ≤ a1 ∧ a1 < (x.1.size : Int) ∧ x.1.size ≤ 140737488355328 then
      (if bt x.1 a1 = 96 ∨ bt x.1 a1 = 126 then
        (if far (isB (bt x.1 a1)) x.1 a1.toNat - a1.toNat < 3 then some noMark else
        (if bt x.1 a1 = 96 ∧ 0 ≤ Lib.indexByte (x.1.extract (far (isB (bt x.1 a1)) x.1 a1.toNat) x.1.size).data.toList 96 then some noMark else
        (mdmark_last.f x.1 ((far (isB (bt x.1 a1)) x.1 a1.toNat : Nat) : Int)).bind fun l =>
          some (bt x.1 a1, ((far (isB (bt x.1 a1)) x.1 a1.toNat - a1.toNat : Nat) : Int), ((far (isB (bt x.1 a1)) x.1 a1.toNat : Nat) : Int), 0, 0, l, true)))
      else some noMark) else none) else some noMark
set_option maxHeartbeats 2000000 in
set_option maxRecDepth 100000 in
theorem fence_none (a0 : ByteArray) (a1 : Int) (s : ByteArray) (w : World) (hx : mdmark_ahead.f a0 a1 = some (s, false)) :
    Calls Tryd.prog 19 #[.string a0, .int .i64 a1] w fun e w' => e = .returned (.tuple #[.agg #[.int .u8 0, .int .i64 0, .int .i64 0, .int .i64 0, .int .i64 0, .int .i64 0], .bool false]) ∧ Below w.heap.size w w' := by
  have c1 := Lib.hid (fun W => mdmark_ahead.calls a0 a1 s false W hx)
  have hu := Tryd.underlying23
  go_enter Tryd.func19, Tryd.ntmps19
  go_wp2_with (go_at_call 26; refine (c1.out _).mono ?_; rintro e W1 ⟨rfl, hd⟩; obtain ⟨k1, z1, b1⟩ := under_blk hd; have A0 := under_at hd; clear hd; have K1 := Lib.hid k1; have B1 := Lib.hid b1; have C0 := blk_cell k1 0; have C1 := blk_cell k1 1; have C2 := blk_cell k1 2; have C3 := blk_cell k1 3; have C4 := blk_cell k1 4; have C5 := blk_cell k1 5; have F0 := blk_frozen k1 0; have F1 := blk_frozen k1 1; have F2 := blk_frozen k1 2; have F3 := blk_frozen k1 3; have F4 := blk_frozen k1 4; have F5 := blk_frozen k1 5; clear k1 b1)
  refine bodyPost_ret (results_ct rfl _ _ (w.heap.size + 1) 23 #[.int .u8 0, .int .i64 0, .int .i64 0, .int .i64 0, .int .i64 0, .int .i64 0] (0, 0) _ rfl ?hk Tryd.underlying23 rfl (by kernel_rfl)) rfl ⟨rfl, ?_⟩
  case hk =>
    refine blk_alloc ?_ _
    refine blk_put (cs := #[.int .u8 0, .int .i64 0, .int .i64 0, .int .i64 0, .int .i64 0, .int .i64 0]) ?_ 5 _ rfl
    refine blk_put (cs := #[.int .u8 0, .int .i64 0, .int .i64 0, .int .i64 0, .int .i64 0, .int .i64 0]) ?_ 4 _ rfl
    refine blk_put (cs := #[.int .u8 0, .int .i64 0, .int .i64 0, .int .i64 0, .int .i64 0, .int .i64 0]) ?_ 3 _ rfl
    refine blk_put (cs := #[.int .u8 0, .int .i64 0, .int .i64 0, .int .i64 0, .int .i64 0, .int .i64 0]) ?_ 2 _ rfl
    refine blk_put (cs := #[.int .u8 0, .int .i64 0, .int .i64 0, .int .i64 0, .int .i64 0, .int .i64 0]) ?_ 1 _ rfl
    exact blk_put (cs := #[.int .u8 0, .int .i64 0, .int .i64 0, .int .i64 0, .int .i64 0, .int .i64 0]) K1.out 0 _ rfl
  · with_reducible repeat (first | exact B1.out | apply below_alloc | apply pw_below_drewN | apply below_drew1 | refine below_set ?_ (show w.heap.size ≤ w.heap.size + 1 by omega))
set_option maxHeartbeats 2000000 in
set_option maxRecDepth 100000 in
theorem fence_other (a0 : ByteArray) (a : Nat) (s : ByteArray) (w : World) (hx : mdmark_ahead.f a0 a = some (s, true)) (hlt : a < s.size) (hs : s.size ≤ 140737488355328) (hc : bt s a ≠ 96 ∧ bt s a ≠ 126) :
    Calls Tryd.prog 19 #[.string a0, .int .i64 a] w fun e w' => e = .returned (.tuple #[.agg #[.int .u8 0, .int .i64 0, .int .i64 0, .int .i64 0, .int .i64 0, .int .i64 0], .bool false]) ∧ Below w.heap.size w w' := by
  have c1 := Lib.hid (fun W => mdmark_ahead.calls a0 a s true W hx)
  have hu := Tryd.underlying23
  have E : ((s[a]'hlt).toNat : Int) = bt s a := by simpa using bt_at s a (by omega)
  have e1 : (((s[a]'hlt).toNat : Int) != 96) = true := bne_iff_ne.2 (by rw [E]; exact hc.1)
  have e2 : (((s[a]'hlt).toNat : Int) != 126) = true := bne_iff_ne.2 (by rw [E]; exact hc.2)
  clear E hc
  go_enter Tryd.func19, Tryd.ntmps19
  go_wp2_with (go_at_call 26; refine (c1.out _).mono ?_; rintro e W1 ⟨rfl, hd⟩; obtain ⟨k1, z1, b1⟩ := under_blk hd; have A0 := under_at hd; clear hd; have K1 := Lib.hid k1; have B1 := Lib.hid b1; have C0 := blk_cell k1 0; have C1 := blk_cell k1 1; have C2 := blk_cell k1 2; have C3 := blk_cell k1 3; have C4 := blk_cell k1 4; have C5 := blk_cell k1 5; have F0 := blk_frozen k1 0; have F1 := blk_frozen k1 1; have F2 := blk_frozen k1 2; have F3 := blk_frozen k1 3; have F4 := blk_frozen k1 4; have F5 := blk_frozen k1 5; clear k1 b1)
  refine bodyPost_ret (results_ct rfl _ _ (w.heap.size + 1) 23 #[.int .u8 0, .int .i64 0, .int .i64 0, .int .i64 0, .int .i64 0, .int .i64 0] (0, 0) _ rfl ?hk Tryd.underlying23 rfl (by kernel_rfl)) rfl ⟨rfl, ?_⟩
  case hk =>
    refine blk_alloc ?_ _
    refine blk_put (cs := #[.int .u8 0, .int .i64 0, .int .i64 0, .int .i64 0, .int .i64 0, .int .i64 0]) ?_ 5 _ rfl
    refine blk_put (cs := #[.int .u8 0, .int .i64 0, .int .i64 0, .int .i64 0, .int .i64 0, .int .i64 0]) ?_ 4 _ rfl
    refine blk_put (cs := #[.int .u8 0, .int .i64 0, .int .i64 0, .int .i64 0, .int .i64 0, .int .i64 0]) ?_ 3 _ rfl
    refine blk_put (cs := #[.int .u8 0, .int .i64 0, .int .i64 0, .int .i64 0, .int .i64 0, .int .i64 0]) ?_ 2 _ rfl
    refine blk_put (cs := #[.int .u8 0, .int .i64 0, .int .i64 0, .int .i64 0, .int .i64 0, .int .i64 0]) ?_ 1 _ rfl
    exact blk_put (cs := #[.int .u8 0, .int .i64 0, .int .i64 0, .int .i64 0, .int .i64 0, .int .i64 0]) K1.out 0 _ rfl
  · with_reducible repeat (first | exact B1.out | apply below_alloc | apply pw_below_drewN | apply below_drew1 | refine below_set ?_ (show w.heap.size ≤ w.heap.size + 1 by omega))
set_option maxHeartbeats 2000000 in
set_option maxRecDepth 100000 in
theorem fence_few96 (a0 : ByteArray) (a : Nat) (s : ByteArray) (w : World) (hx : mdmark_ahead.f a0 a = some (s, true)) (hlt : a < s.size) (hs : s.size ≤ 140737488355328) (hc : bt s a = 96) (hn : far (isB (bt s a)) s a - a < 3) :
    Calls Tryd.prog 19 #[.string a0, .int .i64 a] w fun e w' => e = .returned (.tuple #[.agg #[.int .u8 0, .int .i64 0, .int .i64 0, .int .i64 0, .int .i64 0, .int .i64 0], .bool false]) ∧ Below w.heap.size w w' := by
  have c1 := Lib.hid (fun W => mdmark_ahead.calls a0 a s true W hx)
  have c2 := Lib.hid (fun b cap ps pa W h0 h1 h2 => rowb_fence s a b cap ps pa W h0 h1 h2 hs hlt)
  have hfl : a ≤ far (isB (bt s a)) s a ∧ far (isB (bt s a)) s a ≤ a + (s.size - a) := ⟨stretch_le.2, stretch_le.1⟩
  obtain ⟨n, hF⟩ : ∃ n, far (isB (bt s a)) s a = a + n := ⟨far (isB (bt s a)) s a - a, by omega⟩
  rw [hF] at hfl hn c2
  rw [show a + n - a = n by omega] at hn c2
  have hna : a + n ≤ s.size := by omega
  clear hfl hF
  have hu := Tryd.underlying23
  have kc := fun (W : World) => Lib.run_convert_string_bytes (P := Tryd.prog) W 9 32 5 s Tryd.underlying9 Tryd.underlying32 Tryd.underlying5
  have E : ((s[a]'hlt).toNat : Int) = bt s a := by simpa using bt_at s a (by omega)
  have e1 : (((s[a]'hlt).toNat : Int) != 96) = false := bne_eq_false_iff_eq.2 (by rw [E]; exact hc)
  have e3 : (((s[a]'hlt).toNat : Int) == 96) = true := beq_iff_eq.2 (by rw [E]; exact hc)
  have E' := Lib.hid E
  clear E hc
  have d3 : decide ((n : Int) < 3) = true := decide_eq_true (by omega)
  go_enter Tryd.func19, Tryd.ntmps19
  go_wp2_with (first | (go_at_call 26; refine (c1.out _).mono ?_; rintro e W1 ⟨rfl, hd⟩; obtain ⟨k1, z1, b1⟩ := under_blk hd; have A0 := under_at hd; clear hd; have K1 := Lib.hid k1; have B1 := Lib.hid b1; have hT := fence_two (s := s) z1 k1 A0 b1; have H0 := Lib.hid hT.1; have H1 := Lib.hid hT.2.1; have H2 := Lib.hid hT.2.2.1; have h2o := hT.2.2.1; have HU : Hid (UnderS w s a #[.int .u8 0, .int .i64 0, .int .i64 0, .int .i64 0, .int .i64 0, .int .i64 0] _) := Lib.hid ⟨hT.2.1, hT.2.2.1, hT.2.2.2.1, hT.2.2.2.2⟩; clear hT k1 b1) | (go_at_call 38; refine (c2.out _ _ _ _ _ H0.out H1.out H2.out).mono ?_; rintro e W2 ⟨rfl, hd2⟩; have hU := HU.out.drawn hd2; clear hd2 z1 A0 H0 H1 H2 HU kc h2o; obtain ⟨S2, A2, k2, b2⟩ := hU; have hU : Hid (UnderS w s a #[.int .u8 0, .int .i64 0, .int .i64 0, .int .i64 0, .int .i64 0, .int .i64 0] W2) := Lib.hid ⟨S2, A2, k2, b2⟩; have K2 := Lib.hid k2; have B2 := Lib.hid b2; have C0 := blk_cell k2 0; have C1 := blk_cell k2 1; have C2 := blk_cell k2 2; have C3 := blk_cell k2 3; have C4 := blk_cell k2 4; have C5 := blk_cell k2 5; have F0 := blk_frozen k2 0; have F1 := blk_frozen k2 1; have F2 := blk_frozen k2 2; have F3 := blk_frozen k2 3; have F4 := blk_frozen k2 4; have F5 := blk_frozen k2 5; clear k2 b2))
  refine bodyPost_ret (results_ct rfl _ _ (w.heap.size + 1) 23 #[.int .u8 0, .int .i64 0, .int .i64 0, .int .i64 0, .int .i64 0, .int .i64 0] (0, 0) _ rfl ?hk Tryd.underlying23 rfl (by kernel_rfl)) rfl ⟨rfl, ?_⟩
  case hk =>
    refine blk_put (cs := #[.int .u8 0, .int .i64 0, .int .i64 0, .int .i64 0, .int .i64 0, .int .i64 0]) ?_ 5 _ rfl
    refine blk_put (cs := #[.int .u8 0, .int .i64 0, .int .i64 0, .int .i64 0, .int .i64 0, .int .i64 0]) ?_ 4 _ rfl
    refine blk_put (cs := #[.int .u8 0, .int .i64 0, .int .i64 0, .int .i64 0, .int .i64 0, .int .i64 0]) ?_ 3 _ rfl
    refine blk_put (cs := #[.int .u8 0, .int .i64 0, .int .i64 0, .int .i64 0, .int .i64 0, .int .i64 0]) ?_ 2 _ rfl
    refine blk_put (cs := #[.int .u8 0, .int .i64 0, .int .i64 0, .int .i64 0, .int .i64 0, .int .i64 0]) ?_ 1 _ rfl
    exact blk_put (cs := #[.int .u8 0, .int .i64 0, .int .i64 0, .int .i64 0, .int .i64 0, .int .i64 0]) K2.out 0 _ rfl
  · with_reducible repeat (first | exact B2.out | apply below_alloc | apply pw_below_drewN | apply below_drew1 | refine below_set ?_ (show w.heap.size ≤ w.heap.size + 1 by omega))
set_option maxHeartbeats 2000000 in
set_option maxRecDepth 100000 in
theorem fence_few126 (a0 : ByteArray) (a : Nat) (s : ByteArray) (w : World) (hx : mdmark_ahead.f a0 a = some (s, true)) (hlt : a < s.size) (hs : s.size ≤ 140737488355328) (hc : bt s a = 126) (hn : far (isB (bt s a)) s a - a < 3) :
    Calls Tryd.prog 19 #[.string a0, .int .i64 a] w fun e w' => e = .returned (.tuple #[.agg #[.int .u8 0, .int .i64 0, .int .i64 0, .int .i64 0, .int .i64 0, .int .i64 0], .bool false]) ∧ Below w.heap.size w w' := by
  have c1 := Lib.hid (fun W => mdmark_ahead.calls a0 a s true W hx)
  have c2 := Lib.hid (fun b cap ps pa W h0 h1 h2 => rowb_fence s a b cap ps pa W h0 h1 h2 hs hlt)
  have hfl : a ≤ far (isB (bt s a)) s a ∧ far (isB (bt s a)) s a ≤ a + (s.size - a) := ⟨stretch_le.2, stretch_le.1⟩
  obtain ⟨n, hF⟩ : ∃ n, far (isB (bt s a)) s a = a + n := ⟨far (isB (bt s a)) s a - a, by omega⟩
  rw [hF] at hfl hn c2
  rw [show a + n - a = n by omega] at hn c2
  have hna : a + n ≤ s.size := by omega
  clear hfl hF
  have hu := Tryd.underlying23
  have kc := fun (W : World) => Lib.run_convert_string_bytes (P := Tryd.prog) W 9 32 5 s Tryd.underlying9 Tryd.underlying32 Tryd.underlying5
  have E : ((s[a]'hlt).toNat : Int) = bt s a := by simpa using bt_at s a (by omega)
  have e1 : (((s[a]'hlt).toNat : Int) != 96) = true := bne_iff_ne.2 (by rw [E, hc]; decide)
  have e2 : (((s[a]'hlt).toNat : Int) != 126) = false := bne_eq_false_iff_eq.2 (by rw [E]; exact hc)
  have e3 : (((s[a]'hlt).toNat : Int) == 96) = false := beq_eq_false_iff_ne.2 (by rw [E, hc]; decide)
  have E' := Lib.hid E
  clear E hc
  have d3 : decide ((n : Int) < 3) = true := decide_eq_true (by omega)
  go_enter Tryd.func19, Tryd.ntmps19
  go_wp2_with (first | (go_at_call 26; refine (c1.out _).mono ?_; rintro e W1 ⟨rfl, hd⟩; obtain ⟨k1, z1, b1⟩ := under_blk hd; have A0 := under_at hd; clear hd; have K1 := Lib.hid k1; have B1 := Lib.hid b1; have hT := fence_two (s := s) z1 k1 A0 b1; have H0 := Lib.hid hT.1; have H1 := Lib.hid hT.2.1; have H2 := Lib.hid hT.2.2.1; have h2o := hT.2.2.1; have HU : Hid (UnderS w s a #[.int .u8 0, .int .i64 0, .int .i64 0, .int .i64 0, .int .i64 0, .int .i64 0] _) := Lib.hid ⟨hT.2.1, hT.2.2.1, hT.2.2.2.1, hT.2.2.2.2⟩; clear hT k1 b1) | (go_at_call 38; refine (c2.out _ _ _ _ _ H0.out H1.out H2.out).mono ?_; rintro e W2 ⟨rfl, hd2⟩; have hU := HU.out.drawn hd2; clear hd2 z1 A0 H0 H1 H2 HU kc h2o; obtain ⟨S2, A2, k2, b2⟩ := hU; have hU : Hid (UnderS w s a #[.int .u8 0, .int .i64 0, .int .i64 0, .int .i64 0, .int .i64 0, .int .i64 0] W2) := Lib.hid ⟨S2, A2, k2, b2⟩; have K2 := Lib.hid k2; have B2 := Lib.hid b2; have C0 := blk_cell k2 0; have C1 := blk_cell k2 1; have C2 := blk_cell k2 2; have C3 := blk_cell k2 3; have C4 := blk_cell k2 4; have C5 := blk_cell k2 5; have F0 := blk_frozen k2 0; have F1 := blk_frozen k2 1; have F2 := blk_frozen k2 2; have F3 := blk_frozen k2 3; have F4 := blk_frozen k2 4; have F5 := blk_frozen k2 5; clear k2 b2))
  refine bodyPost_ret (results_ct rfl _ _ (w.heap.size + 1) 23 #[.int .u8 0, .int .i64 0, .int .i64 0, .int .i64 0, .int .i64 0, .int .i64 0] (0, 0) _ rfl ?hk Tryd.underlying23 rfl (by kernel_rfl)) rfl ⟨rfl, ?_⟩
  case hk =>
    refine blk_put (cs := #[.int .u8 0, .int .i64 0, .int .i64 0, .int .i64 0, .int .i64 0, .int .i64 0]) ?_ 5 _ rfl
    refine blk_put (cs := #[.int .u8 0, .int .i64 0, .int .i64 0, .int .i64 0, .int .i64 0, .int .i64 0]) ?_ 4 _ rfl
    refine blk_put (cs := #[.int .u8 0, .int .i64 0, .int .i64 0, .int .i64 0, .int .i64 0, .int .i64 0]) ?_ 3 _ rfl
    refine blk_put (cs := #[.int .u8 0, .int .i64 0, .int .i64 0, .int .i64 0, .int .i64 0, .int .i64 0]) ?_ 2 _ rfl
    refine blk_put (cs := #[.int .u8 0, .int .i64 0, .int .i64 0, .int .i64 0, .int .i64 0, .int .i64 0]) ?_ 1 _ rfl
    exact blk_put (cs := #[.int .u8 0, .int .i64 0, .int .i64 0, .int .i64 0, .int .i64 0, .int .i64 0]) K2.out 0 _ rfl
  · with_reducible repeat (first | exact B2.out | apply below_alloc | apply pw_below_drewN | apply below_drew1 | refine below_set ?_ (show w.heap.size ≤ w.heap.size + 1 by omega))
set_option maxHeartbeats 2000000 in
set_option maxRecDepth 100000 in
theorem fence_more96 (a0 : ByteArray) (a : Nat) (s : ByteArray) (w : World) (hx : mdmark_ahead.f a0 a = some (s, true)) (hlt : a < s.size) (hs : s.size ≤ 140737488355328) (hc : bt s a = 96) (hn : 3 ≤ far (isB (bt s a)) s a - a) (hi : 0 ≤ Lib.indexByte (s.extract (far (isB (bt s a)) s a) s.size).data.toList 96) :
    Calls Tryd.prog 19 #[.string a0, .int .i64 a] w fun e w' => e = .returned (.tuple #[.agg #[.int .u8 0, .int .i64 0, .int .i64 0, .int .i64 0, .int .i64 0, .int .i64 0], .bool false]) ∧ Below w.heap.size w w' := by
  have c1 := Lib.hid (fun W => mdmark_ahead.calls a0 a s true W hx)
  have c2 := Lib.hid (fun b cap ps pa W h0 h1 h2 => rowb_fence s a b cap ps pa W h0 h1 h2 hs hlt)
  have hfl : a ≤ far (isB (bt s a)) s a ∧ far (isB (bt s a)) s a ≤ a + (s.size - a) := ⟨stretch_le.2, stretch_le.1⟩
  obtain ⟨n, hF⟩ : ∃ n, far (isB (bt s a)) s a = a + n := ⟨far (isB (bt s a)) s a - a, by omega⟩
  rw [hF] at hfl hn c2 hi
  rw [show a + n - a = n by omega] at hn c2
  have hna : a + n ≤ s.size := by omega
  clear hfl hF
  have hu := Tryd.underlying23
  have kc := fun (W : World) => Lib.run_convert_string_bytes (P := Tryd.prog) W 9 32 5 s Tryd.underlying9 Tryd.underlying32 Tryd.underlying5
  have E : ((s[a]'hlt).toNat : Int) = bt s a := by simpa using bt_at s a (by omega)
  have e1 : (((s[a]'hlt).toNat : Int) != 96) = false := bne_eq_false_iff_eq.2 (by rw [E]; exact hc)
  have e3 : (((s[a]'hlt).toNat : Int) == 96) = true := beq_iff_eq.2 (by rw [E]; exact hc)
  have E' := Lib.hid E
  clear E hc
  have d3 : decide ((n : Int) < 3) = false := decide_eq_false (by omega)
  have c5 := Lib.hid (fun W => strings_IndexByte.calls (s.extract (a + n) s.size) 96 _ W rfl)
  have hi' : decide (0 ≤ Lib.indexByte (s.extract (a + n) s.size).data.toList (Int.toNat 96).toUInt8) = true := decide_eq_true (by first | exact hi | exact Int.not_le.2 hi)
  generalize Lib.indexByte (s.extract (a + n) s.size).data.toList (Int.toNat 96).toUInt8 = ix at c5 hi'
  clear hi
  go_enter Tryd.func19, Tryd.ntmps19
  go_wp2_with (first | (go_at_call 26; refine (c1.out _).mono ?_; rintro e W1 ⟨rfl, hd⟩; obtain ⟨k1, z1, b1⟩ := under_blk hd; have A0 := under_at hd; clear hd; have K1 := Lib.hid k1; have B1 := Lib.hid b1; have hT := fence_two (s := s) z1 k1 A0 b1; have H0 := Lib.hid hT.1; have H1 := Lib.hid hT.2.1; have H2 := Lib.hid hT.2.2.1; have h2o := hT.2.2.1; have HU : Hid (UnderS w s a #[.int .u8 0, .int .i64 0, .int .i64 0, .int .i64 0, .int .i64 0, .int .i64 0] _) := Lib.hid ⟨hT.2.1, hT.2.2.1, hT.2.2.2.1, hT.2.2.2.2⟩; clear hT k1 b1) | (go_at_call 38; refine (c2.out _ _ _ _ _ H0.out H1.out H2.out).mono ?_; rintro e W2 ⟨rfl, hd2⟩; have hU := HU.out.drawn hd2; clear hd2 z1 A0 H0 H1 H2 HU kc h2o; obtain ⟨S2, A2, k2, b2⟩ := hU; have hU : Hid (UnderS w s a #[.int .u8 0, .int .i64 0, .int .i64 0, .int .i64 0, .int .i64 0, .int .i64 0] W2) := Lib.hid ⟨S2, A2, k2, b2⟩; have K2 := Lib.hid k2; have B2 := Lib.hid b2; have C0 := blk_cell k2 0; have C1 := blk_cell k2 1; have C2 := blk_cell k2 2; have C3 := blk_cell k2 3; have C4 := blk_cell k2 4; have C5 := blk_cell k2 5; have F0 := blk_frozen k2 0; have F1 := blk_frozen k2 1; have F2 := blk_frozen k2 2; have F3 := blk_frozen k2 3; have F4 := blk_frozen k2 4; have F5 := blk_frozen k2 5; clear k2 b2) | (go_at_call 40; refine (c5.out _).mono ?_; rintro e W3 ⟨rfl, hd3⟩; have hU3 := Lib.hid (hU.out.drawn hd3); clear hd3; obtain ⟨S3, A3, k3, b3⟩ := hU3.out; have K3 := Lib.hid k3; have B3 := Lib.hid b3; have C0 := blk_cell k3 0; have C1 := blk_cell k3 1; have C2 := blk_cell k3 2; have C3 := blk_cell k3 3; have C4 := blk_cell k3 4; have C5 := blk_cell k3 5; have F0 := blk_frozen k3 0; have F1 := blk_frozen k3 1; have F2 := blk_frozen k3 2; have F3 := blk_frozen k3 3; have F4 := blk_frozen k3 4; have F5 := blk_frozen k3 5; clear k3 b3))
  refine bodyPost_ret (results_ct rfl _ _ (w.heap.size + 1) 23 #[.int .u8 0, .int .i64 0, .int .i64 0, .int .i64 0, .int .i64 0, .int .i64 0] (0, 0) _ rfl ?hk Tryd.underlying23 rfl (by kernel_rfl)) rfl ⟨rfl, ?_⟩
  case hk =>
    refine blk_put (cs := #[.int .u8 0, .int .i64 0, .int .i64 0, .int .i64 0, .int .i64 0, .int .i64 0]) ?_ 5 _ rfl
    refine blk_put (cs := #[.int .u8 0, .int .i64 0, .int .i64 0, .int .i64 0, .int .i64 0, .int .i64 0]) ?_ 4 _ rfl
    refine blk_put (cs := #[.int .u8 0, .int .i64 0, .int .i64 0, .int .i64 0, .int .i64 0, .int .i64 0]) ?_ 3 _ rfl
    refine blk_put (cs := #[.int .u8 0, .int .i64 0, .int .i64 0, .int .i64 0, .int .i64 0, .int .i64 0]) ?_ 2 _ rfl
    refine blk_put (cs := #[.int .u8 0, .int .i64 0, .int .i64 0, .int .i64 0, .int .i64 0, .int .i64 0]) ?_ 1 _ rfl
    exact blk_put (cs := #[.int .u8 0, .int .i64 0, .int .i64 0, .int .i64 0, .int .i64 0, .int .i64 0]) K3.out 0 _ rfl
  · with_reducible repeat (first | exact B3.out | apply below_alloc | apply pw_below_drewN | apply below_drew1 | refine below_set ?_ (show w.heap.size ≤ w.heap.size + 1 by omega))
set_option maxHeartbeats 2000000 in
set_option maxRecDepth 100000 in
theorem fence_told126 (a0 : ByteArray) (a : Nat) (s : ByteArray) (l : Int) (w : World) (hx : mdmark_ahead.f a0 a = some (s, true)) (hlt : a < s.size) (hs : s.size ≤ 140737488355328) (hc : bt s a = 126) (hn : 3 ≤ far (isB (bt s a)) s a - a) (hl : mdmark_last.f s ((far (isB (bt s a)) s a : Nat) : Int) = some l) :
    Calls Tryd.prog 19 #[.string a0, .int .i64 a] w fun e w' => e = .returned (.tuple #[.agg #[.int .u8 (bt s a), .int .i64 ((far (isB (bt s a)) s a - a : Nat)), .int .i64 ((far (isB (bt s a)) s a : Nat)), .int .i64 0, .int .i64 0, .int .i64 (l)], .bool true]) ∧ Below w.heap.size w w' := by
  have c1 := Lib.hid (fun W => mdmark_ahead.calls a0 a s true W hx)
  have c2 := Lib.hid (fun b cap ps pa W h0 h1 h2 => rowb_fence s a b cap ps pa W h0 h1 h2 hs hlt)
  have hfl : a ≤ far (isB (bt s a)) s a ∧ far (isB (bt s a)) s a ≤ a + (s.size - a) := ⟨stretch_le.2, stretch_le.1⟩
  obtain ⟨n, hF⟩ : ∃ n, far (isB (bt s a)) s a = a + n := ⟨far (isB (bt s a)) s a - a, by omega⟩
  rw [hF] at hfl hn c2 hl ⊢
  rw [show a + n - a = n by omega] at hn c2 ⊢
  have hna : a + n ≤ s.size := by omega
  clear hfl hF
  have hu := Tryd.underlying23
  have kc := fun (W : World) => Lib.run_convert_string_bytes (P := Tryd.prog) W 9 32 5 s Tryd.underlying9 Tryd.underlying32 Tryd.underlying5
  have E : ((s[a]'hlt).toNat : Int) = bt s a := by simpa using bt_at s a (by omega)
  have e1 : (((s[a]'hlt).toNat : Int) != 96) = true := bne_iff_ne.2 (by rw [E, hc]; decide)
  have e2 : (((s[a]'hlt).toNat : Int) != 126) = false := bne_eq_false_iff_eq.2 (by rw [E]; exact hc)
  have e3 : (((s[a]'hlt).toNat : Int) == 96) = false := beq_eq_false_iff_ne.2 (by rw [E, hc]; decide)
  have E' := Lib.hid E
  clear E hc
  have d3 : decide ((n : Int) < 3) = false := decide_eq_false (by omega)
  go_enter Tryd.func19, Tryd.ntmps19
  go_wp2_with (first | (go_at_call 26; refine (c1.out _).mono ?_; rintro e W1 ⟨rfl, hd⟩; obtain ⟨k1, z1, b1⟩ := under_blk hd; have A0 := under_at hd; clear hd; have K1 := Lib.hid k1; have B1 := Lib.hid b1; have hT := fence_two (s := s) z1 k1 A0 b1; have H0 := Lib.hid hT.1; have H1 := Lib.hid hT.2.1; have H2 := Lib.hid hT.2.2.1; have h2o := hT.2.2.1; have HU : Hid (UnderS w s a #[.int .u8 0, .int .i64 0, .int .i64 0, .int .i64 0, .int .i64 0, .int .i64 0] _) := Lib.hid ⟨hT.2.1, hT.2.2.1, hT.2.2.2.1, hT.2.2.2.2⟩; clear hT k1 b1) | (go_at_call 38; refine (c2.out _ _ _ _ _ H0.out H1.out H2.out).mono ?_; rintro e W2 ⟨rfl, hd2⟩; have hU := HU.out.drawn hd2; clear hd2 z1 A0 H0 H1 H2 HU kc h2o; obtain ⟨S2, A2, k2, b2⟩ := hU; have hU : Hid (UnderS w s a #[.int .u8 0, .int .i64 0, .int .i64 0, .int .i64 0, .int .i64 0, .int .i64 0] W2) := Lib.hid ⟨S2, A2, k2, b2⟩; have K2 := Lib.hid k2; have B2 := Lib.hid b2; have C0 := blk_cell k2 0; have C1 := blk_cell k2 1; have C2 := blk_cell k2 2; have C3 := blk_cell k2 3; have C4 := blk_cell k2 4; have C5 := blk_cell k2 5; have F0 := blk_frozen k2 0; have F1 := blk_frozen k2 1; have F2 := blk_frozen k2 2; have F3 := blk_frozen k2 3; have F4 := blk_frozen k2 4; have F5 := blk_frozen k2 5; clear k2 b2))
  have hl' : mdmark_last.f s ((a : Int) + (n : Int)) = some l := by rw [← Int.natCast_add]; exact hl
  have c4 := Lib.hid (fun W (h : UnderS w s a #[.int .u8 0, .int .i64 0, .int .i64 0, .int .i64 0, .int .i64 0, .int .i64 0] W) => (mdmark_last.calls s ((a : Int) + (n : Int)) l W hl').mono (fun e W' h' => (⟨h'.1, h.below h'.2⟩ : _ ∧ UnderS w s a _ W')))
  have hV : UnderS w s a #[.int .u8 0, .int .i64 0, .int .i64 0, .int .i64 0, .int .i64 0, .int .i64 0] W2.drew := hU.out.below (by with_reducible repeat (first | exact Below.refl _ _ | apply pw_below_drewN | apply below_drew1))
  have ew : IntKind.i64.wrap ((a : Int) + (n : Int)) = (a : Int) + (n : Int) := by rw [i64_w]; unfold wrap64; omega
  obtain ⟨SV, AV, _, _⟩ := id hV
  clear hl hl' C0 C1 C2 C3 C4 C5 F0 F1 F2 F3 F4 F5 c1 c2
  go_region_held3 (fun W => W.cell? ⟨w.heap.size + 1 + 1, 0, none⟩ = some (.string s) ∧ W.cell? ⟨w.heap.size, 0, none⟩ = some (.int .i64 a)) (with_reducible first | exact ⟨SV, AV⟩ | exact ⟨S4, A4⟩ | exact ⟨far_set6 S4 (by omega), far_set6 A4 (by omega)⟩) (first | (go_at_call 30; (with_reducible refine (c4.out _ hV).mono ?_); rintro e W4 ⟨rfl, hU4⟩; obtain ⟨S4, A4, k4, b4⟩ := hU4; have K4 := Lib.hid k4; have B4 := Lib.hid b4; have C0 := blk_cell k4 0; have C1 := blk_cell k4 1; have C2 := blk_cell k4 2; have C3 := blk_cell k4 3; have C4 := blk_cell k4 4; have C5 := blk_cell k4 5; have F0 := blk_frozen k4 0; have F1 := blk_frozen k4 1; have F2 := blk_frozen k4 2; have F3 := blk_frozen k4 3; have F4 := blk_frozen k4 4; have F5 := blk_frozen k4 5; clear k4 b4))
  all_goals
    try go_wp2
    refine bodyPost_ret (results_ct rfl _ _ (w.heap.size + 1) 23 #[.int .u8 ((s[a]'hlt).toNat), .int .i64 ((n : Nat)), .int .i64 (((a : Int) + (n : Int))), .int .i64 0, .int .i64 0, .int .i64 (l)] (0, 0) _ rfl ?hk Tryd.underlying23 rfl (by kernel_rfl)) rfl ⟨by rw [E'.out, Int.natCast_add]; rfl, ?_⟩
    case hk =>
      refine blk_put (cs := #[.int .u8 ((s[a]'hlt).toNat), .int .i64 ((n : Nat)), .int .i64 (((a : Int) + (n : Int))), .int .i64 0, .int .i64 0, .int .i64 0]) ?_ 5 _ rfl
      refine blk_put (cs := #[.int .u8 ((s[a]'hlt).toNat), .int .i64 ((n : Nat)), .int .i64 (((a : Int) + (n : Int))), .int .i64 0, .int .i64 0, .int .i64 0]) ?_ 4 _ rfl
      refine blk_put (cs := #[.int .u8 ((s[a]'hlt).toNat), .int .i64 ((n : Nat)), .int .i64 (((a : Int) + (n : Int))), .int .i64 0, .int .i64 0, .int .i64 0]) ?_ 3 _ rfl
      refine blk_put (cs := #[.int .u8 ((s[a]'hlt).toNat), .int .i64 ((n : Nat)), .int .i64 0, .int .i64 0, .int .i64 0, .int .i64 0]) ?_ 2 _ rfl
      refine blk_put (cs := #[.int .u8 ((s[a]'hlt).toNat), .int .i64 0, .int .i64 0, .int .i64 0, .int .i64 0, .int .i64 0]) ?_ 1 _ rfl
      exact blk_put (cs := #[.int .u8 0, .int .i64 0, .int .i64 0, .int .i64 0, .int .i64 0, .int .i64 0]) K4.out 0 _ rfl
    · with_reducible repeat (first | exact B4.out | apply below_alloc | apply pw_below_drewN | apply below_drew1 | refine below_set ?_ (show w.heap.size ≤ w.heap.size + 1 by omega))
set_option maxHeartbeats 2000000 in
set_option maxRecDepth 100000 in
theorem fence_told96 (a0 : ByteArray) (a : Nat) (s : ByteArray) (l : Int) (w : World) (hx : mdmark_ahead.f a0 a = some (s, true)) (hlt : a < s.size) (hs : s.size ≤ 140737488355328) (hc : bt s a = 96) (hn : 3 ≤ far (isB (bt s a)) s a - a) (hi : Lib.indexByte (s.extract (far (isB (bt s a)) s a) s.size).data.toList 96 < 0) (hl : mdmark_last.f s ((far (isB (bt s a)) s a : Nat) : Int) = some l) :
    Calls Tryd.prog 19 #[.string a0, .int .i64 a] w fun e w' => e = .returned (.tuple #[.agg #[.int .u8 (bt s a), .int .i64 ((far (isB (bt s a)) s a - a : Nat)), .int .i64 ((far (isB (bt s a)) s a : Nat)), .int .i64 0, .int .i64 0, .int .i64 (l)], .bool true]) ∧ Below w.heap.size w w' := by
  have c1 := Lib.hid (fun W => mdmark_ahead.calls a0 a s true W hx)
  have c2 := Lib.hid (fun b cap ps pa W h0 h1 h2 => rowb_fence s a b cap ps pa W h0 h1 h2 hs hlt)
  have hfl : a ≤ far (isB (bt s a)) s a ∧ far (isB (bt s a)) s a ≤ a + (s.size - a) := ⟨stretch_le.2, stretch_le.1⟩
  obtain ⟨n, hF⟩ : ∃ n, far (isB (bt s a)) s a = a + n := ⟨far (isB (bt s a)) s a - a, by omega⟩
  rw [hF] at hfl hn c2 hl hi ⊢
  rw [show a + n - a = n by omega] at hn c2 ⊢
  have hna : a + n ≤ s.size := by omega
  clear hfl hF
  have hu := Tryd.underlying23
  have kc := fun (W : World) => Lib.run_convert_string_bytes (P := Tryd.prog) W 9 32 5 s Tryd.underlying9 Tryd.underlying32 Tryd.underlying5
  have E : ((s[a]'hlt).toNat : Int) = bt s a := by simpa using bt_at s a (by omega)
  have e1 : (((s[a]'hlt).toNat : Int) != 96) = false := bne_eq_false_iff_eq.2 (by rw [E]; exact hc)
  have e3 : (((s[a]'hlt).toNat : Int) == 96) = true := beq_iff_eq.2 (by rw [E]; exact hc)
  have E' := Lib.hid E
  clear E hc
  have d3 : decide ((n : Int) < 3) = false := decide_eq_false (by omega)
  have c5 := Lib.hid (fun W => strings_IndexByte.calls (s.extract (a + n) s.size) 96 _ W rfl)
  have hi' : decide (0 ≤ Lib.indexByte (s.extract (a + n) s.size).data.toList (Int.toNat 96).toUInt8) = false := decide_eq_false (by first | exact hi | exact Int.not_le.2 hi)
  generalize Lib.indexByte (s.extract (a + n) s.size).data.toList (Int.toNat 96).toUInt8 = ix at c5 hi'
  clear hi
  go_enter Tryd.func19, Tryd.ntmps19
  go_wp2_with (first | (go_at_call 26; refine (c1.out _).mono ?_; rintro e W1 ⟨rfl, hd⟩; obtain ⟨k1, z1, b1⟩ := under_blk hd; have A0 := under_at hd; clear hd; have K1 := Lib.hid k1; have B1 := Lib.hid b1; have hT := fence_two (s := s) z1 k1 A0 b1; have H0 := Lib.hid hT.1; have H1 := Lib.hid hT.2.1; have H2 := Lib.hid hT.2.2.1; have h2o := hT.2.2.1; have HU : Hid (UnderS w s a #[.int .u8 0, .int .i64 0, .int .i64 0, .int .i64 0, .int .i64 0, .int .i64 0] _) := Lib.hid ⟨hT.2.1, hT.2.2.1, hT.2.2.2.1, hT.2.2.2.2⟩; clear hT k1 b1) | (go_at_call 38; refine (c2.out _ _ _ _ _ H0.out H1.out H2.out).mono ?_; rintro e W2 ⟨rfl, hd2⟩; have hU := HU.out.drawn hd2; clear hd2 z1 A0 H0 H1 H2 HU kc h2o; obtain ⟨S2, A2, k2, b2⟩ := hU; have hU : Hid (UnderS w s a #[.int .u8 0, .int .i64 0, .int .i64 0, .int .i64 0, .int .i64 0, .int .i64 0] W2) := Lib.hid ⟨S2, A2, k2, b2⟩; have K2 := Lib.hid k2; have B2 := Lib.hid b2; have C0 := blk_cell k2 0; have C1 := blk_cell k2 1; have C2 := blk_cell k2 2; have C3 := blk_cell k2 3; have C4 := blk_cell k2 4; have C5 := blk_cell k2 5; have F0 := blk_frozen k2 0; have F1 := blk_frozen k2 1; have F2 := blk_frozen k2 2; have F3 := blk_frozen k2 3; have F4 := blk_frozen k2 4; have F5 := blk_frozen k2 5; clear k2 b2) | (go_at_call 40; refine (c5.out _).mono ?_; rintro e W3 ⟨rfl, hd3⟩; have hU3 := Lib.hid (hU.out.drawn hd3); clear hd3; obtain ⟨S3, A3, k3, b3⟩ := hU3.out; have K3 := Lib.hid k3; have B3 := Lib.hid b3; have C0 := blk_cell k3 0; have C1 := blk_cell k3 1; have C2 := blk_cell k3 2; have C3 := blk_cell k3 3; have C4 := blk_cell k3 4; have C5 := blk_cell k3 5; have F0 := blk_frozen k3 0; have F1 := blk_frozen k3 1; have F2 := blk_frozen k3 2; have F3 := blk_frozen k3 3; have F4 := blk_frozen k3 4; have F5 := blk_frozen k3 5; clear k3 b3))
  have hl' : mdmark_last.f s ((a : Int) + (n : Int)) = some l := by rw [← Int.natCast_add]; exact hl
  have c4 := Lib.hid (fun W (h : UnderS w s a #[.int .u8 0, .int .i64 0, .int .i64 0, .int .i64 0, .int .i64 0, .int .i64 0] W) => (mdmark_last.calls s ((a : Int) + (n : Int)) l W hl').mono (fun e W' h' => (⟨h'.1, h.below h'.2⟩ : _ ∧ UnderS w s a _ W')))
  have hV : UnderS w s a #[.int .u8 0, .int .i64 0, .int .i64 0, .int .i64 0, .int .i64 0, .int .i64 0] W3.drew := hU3.out.below (by with_reducible repeat (first | exact Below.refl _ _ | apply pw_below_drewN | apply below_drew1))
  have ew : IntKind.i64.wrap ((a : Int) + (n : Int)) = (a : Int) + (n : Int) := by rw [i64_w]; unfold wrap64; omega
  obtain ⟨SV, AV, _, _⟩ := id hV
  clear hl hl' C0 C1 C2 C3 C4 C5 F0 F1 F2 F3 F4 F5 c1 c2
  go_region_held3 (fun W => W.cell? ⟨w.heap.size + 1 + 1, 0, none⟩ = some (.string s) ∧ W.cell? ⟨w.heap.size, 0, none⟩ = some (.int .i64 a)) (with_reducible first | exact ⟨SV, AV⟩ | exact ⟨S4, A4⟩ | exact ⟨far_set6 S4 (by omega), far_set6 A4 (by omega)⟩) (first | (go_at_call 30; (with_reducible refine (c4.out _ hV).mono ?_); rintro e W4 ⟨rfl, hU4⟩; obtain ⟨S4, A4, k4, b4⟩ := hU4; have K4 := Lib.hid k4; have B4 := Lib.hid b4; have C0 := blk_cell k4 0; have C1 := blk_cell k4 1; have C2 := blk_cell k4 2; have C3 := blk_cell k4 3; have C4 := blk_cell k4 4; have C5 := blk_cell k4 5; have F0 := blk_frozen k4 0; have F1 := blk_frozen k4 1; have F2 := blk_frozen k4 2; have F3 := blk_frozen k4 3; have F4 := blk_frozen k4 4; have F5 := blk_frozen k4 5; clear k4 b4))
  all_goals
    try go_wp2
    refine bodyPost_ret (results_ct rfl _ _ (w.heap.size + 1) 23 #[.int .u8 ((s[a]'hlt).toNat), .int .i64 ((n : Nat)), .int .i64 (((a : Int) + (n : Int))), .int .i64 0, .int .i64 0, .int .i64 (l)] (0, 0) _ rfl ?hk Tryd.underlying23 rfl (by kernel_rfl)) rfl ⟨by rw [E'.out, Int.natCast_add]; rfl, ?_⟩
    case hk =>
      refine blk_put (cs := #[.int .u8 ((s[a]'hlt).toNat), .int .i64 ((n : Nat)), .int .i64 (((a : Int) + (n : Int))), .int .i64 0, .int .i64 0, .int .i64 0]) ?_ 5 _ rfl
      refine blk_put (cs := #[.int .u8 ((s[a]'hlt).toNat), .int .i64 ((n : Nat)), .int .i64 (((a : Int) + (n : Int))), .int .i64 0, .int .i64 0, .int .i64 0]) ?_ 4 _ rfl
      refine blk_put (cs := #[.int .u8 ((s[a]'hlt).toNat), .int .i64 ((n : Nat)), .int .i64 (((a : Int) + (n : Int))), .int .i64 0, .int .i64 0, .int .i64 0]) ?_ 3 _ rfl
      refine blk_put (cs := #[.int .u8 ((s[a]'hlt).toNat), .int .i64 ((n : Nat)), .int .i64 0, .int .i64 0, .int .i64 0, .int .i64 0]) ?_ 2 _ rfl
      refine blk_put (cs := #[.int .u8 ((s[a]'hlt).toNat), .int .i64 0, .int .i64 0, .int .i64 0, .int .i64 0, .int .i64 0]) ?_ 1 _ rfl
      exact blk_put (cs := #[.int .u8 0, .int .i64 0, .int .i64 0, .int .i64 0, .int .i64 0, .int .i64 0]) K4.out 0 _ rfl
    · with_reducible repeat (first | exact B4.out | apply below_alloc | apply pw_below_drewN | apply below_drew1 | refine below_set ?_ (show w.heap.size ≤ w.heap.size + 1 by omega))
theorem mdmark_Fence.calls (a0 : ByteArray) (a1 : Int) (r1 : Int) (r2 : Int) (r3 : Int) (r4 : Int) (r5 : Int) (r6 : Int) (r7 : Bool) (w : World) (h : mdmark_Fence.f a0 a1 = some (r1, r2, r3, r4, r5, r6, r7)) :
    Calls Tryd.prog 19 #[.string a0, .int .i64 a1] w fun e w' => e = .returned (.tuple #[.agg #[.int .u8 r1, .int .i64 r2, .int .i64 r3, .int .i64 r4, .int .i64 r5, .int .i64 r6], .bool r7]) ∧ Below w.heap.size w w' := by
  unfold mdmark_Fence.f at h
  obtain ⟨⟨s, ok⟩, hx, h⟩ := Option.bind_eq_some_iff.mp h
  cases ok with
  | false =>
    have h' : noMark = (r1, r2, r3, r4, r5, r6, r7) := by simpa using h
    simp only [noMark, Prod.mk.injEq] at h'
    obtain ⟨rfl, rfl, rfl, rfl, rfl, rfl, rfl⟩ := h'
    exact fence_none a0 a1 s w hx
  | true =>
    by_cases hb : 0 ≤ a1 ∧ a1 < (s.size : Int) ∧ s.size ≤ 140737488355328
    rotate_left
    · simp [hb] at h
    obtain ⟨h0, hlt, hs⟩ := hb
    obtain ⟨a, rfl⟩ := Int.eq_ofNat_of_zero_le h0
    have hlt' : a < s.size := by omega
    simp only [h0, hlt, hs, and_self, if_true, Int.toNat_natCast] at h
    by_cases hc : bt s a = 96 ∨ bt s a = 126
    · rw [if_pos hc] at h
      by_cases hn : far (isB (bt s a)) s a - a < 3
      · rw [if_pos hn] at h
        simp only [noMark, Option.some.injEq, Prod.mk.injEq] at h
        obtain ⟨rfl, rfl, rfl, rfl, rfl, rfl, rfl⟩ := h
        rcases hc with hc | hc
        · exact fence_few96 a0 a s w hx hlt' hs hc hn
        · exact fence_few126 a0 a s w hx hlt' hs hc hn
      · rw [if_neg hn] at h
        by_cases hi : bt s a = 96 ∧ 0 ≤ Lib.indexByte (s.extract (far (isB (bt s a)) s a) s.size).data.toList 96
        · rw [if_pos hi] at h
          simp only [noMark, Option.some.injEq, Prod.mk.injEq] at h
          obtain ⟨rfl, rfl, rfl, rfl, rfl, rfl, rfl⟩ := h
          exact fence_more96 a0 a s w hx hlt' hs hi.1 (by omega) hi.2
        · rw [if_neg hi] at h
          obtain ⟨l, hl, h⟩ := Option.bind_eq_some_iff.mp h
          simp only [Option.some.injEq, Prod.mk.injEq] at h
          obtain ⟨rfl, rfl, rfl, rfl, rfl, rfl, rfl⟩ := h
          rcases hc with hc | hc
          · exact fence_told96 a0 a s l w hx hlt' hs hc (by omega) (Int.not_le.1 fun h' => hi ⟨hc, h'⟩) hl
          · exact fence_told126 a0 a s l w hx hlt' hs hc (by omega) hl
    · rw [if_neg hc] at h
      simp only [noMark, Option.some.injEq, Prod.mk.injEq] at h
      obtain ⟨rfl, rfl, rfl, rfl, rfl, rfl, rfl⟩ := h
      exact fence_other a0 a s w hx hlt' hs ⟨fun e => hc (.inl e), fun e => hc (.inr e)⟩
end Go.Proofs.YtgeddemohcbojaaDoor.P
