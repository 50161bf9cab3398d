/- A contract, walked by hand: mdmark.Under. Conditions: a text of at most 2^47 bytes. -/
import Derived.Test.YtgeddemohcbojaaDoorHandS
import Derived.Test.YtgeddemohcbojaaDoorQ3
import Derived.Test.YtgeddemohcbojaaDoorQ4
import Derived.Test.YtgeddemohcbojaaDoorQ5
import Derived.Deep.RegionHeld3
namespace Go.Proofs.YtgeddemohcbojaaDoor.P
open Go.RowKit Go.Proofs.YtgeddemohcbojaaDoorW.PrintWords Go.Proofs.YtgeddemohcbojaaDoorW.PrintLast Go.Proofs.YtgeddemohcbojaaDoorW.PrintMore
set_option linter.unusedVariables false
set_option linter.unusedSimpArgs false
theorem under_blk {w W1 : World} {o1 : Obj} {cs : Array Value} {t : TypeId} (h : Drawn0 ((w.alloc o1).alloc (.cells cs t (0, 0))) W1) : W1.heap[w.heap.size + 1]? = some (.cells cs t (0, 0)) ∧ W1.heap.size = w.heap.size + 1 + 1 ∧ Below w.heap.size w W1 := by
  obtain ⟨n, rfl⟩ := h.out
  refine ⟨blk_drewN ?_ n, by simp, ?_⟩
  · have := blk_new (w.alloc o1) (.cells cs t (0, 0))
    rw [World.size_alloc] at this
    exact this
  · with_reducible repeat (first | exact Below.refl _ _ | apply pw_below_drewN | apply below_alloc)
theorem under_at {w W1 : World} {o2 : Obj} {v : Value} {t : TypeId} (h : Drawn0 ((w.alloc (.cells #[v] t (0, 0))).alloc o2) W1) : W1.cell? ⟨w.heap.size, 0, none⟩ = some v := by
  obtain ⟨n, rfl⟩ := h.out
  have := blk_cell (blk_drewN (blk_alloc (blk_new w (.cells #[v] t (0, 0))) o2) n) 0
  exact this
theorem under_two {w W1 W2 : World} {v u : Value} {cs : Array Value} (h : Drawn0 (W1.alloc (.cells #[v] 9 (0, 0))) W2) (z : W1.heap.size = w.heap.size + 1 + 1) (k : W1.heap[w.heap.size + 1]? = some (.cells cs 23 (0, 0))) (A : W1.cell? ⟨w.heap.size, 0, none⟩ = some u) (b : Below w.heap.size w W1) :
    W2.heap[w.heap.size + 1]? = some (.cells cs 23 (0, 0)) ∧ W2.cell? ⟨w.heap.size, 0, none⟩ = some u ∧ W2.cell? ⟨w.heap.size + 1 + 1, 0, none⟩ = some v ∧ W2.heap.size = w.heap.size + 1 + 1 + 1 ∧ Below w.heap.size w W2 := by
  obtain ⟨n, rfl⟩ := h.out
  refine ⟨blk_drewN (blk_alloc k _) n, ?_, ?_, by simp [z], ?_⟩
  · have hb : Below W1.heap.size W1 (W1.alloc (.cells #[v] 9 (0, 0))) := by with_reducible repeat (first | exact Below.refl _ _ | apply below_alloc)
    rw [World.cell?_drewN]
    exact (hb.cell (p := ⟨w.heap.size, 0, none⟩) (show w.heap.size < W1.heap.size by omega)).trans A
  · have := blk_cell (blk_drewN (blk_new W1 (.cells #[v] 9 (0, 0))) n) 0
    rw [z] at this
    exact this
  · with_reducible repeat (first | exact b | apply pw_below_drewN | apply below_alloc)
theorem cell_lt {W : World} {p : Addr} {v : Value} (h : W.cell? p = some v) : p.block < W.heap.size := by
  by_cases hb : p.block < W.heap.size
  · exact hb
  · exfalso
    have : W.heap[p.block]? = none := Array.getElem?_eq_none (by omega)
    simp [World.cell?, this] at h
/-- What Under's and Fence's walks keep: the text's and the place's cells, the result's block. -/
def UnderS (w : World) (s : ByteArray) (a : Nat) (cs : Array Value) (W : World) : Prop :=
  W.cell? ⟨w.heap.size + 1 + 1, 0, none⟩ = some (.string s) ∧ W.cell? ⟨w.heap.size, 0, none⟩ = some (.int .i64 a) ∧ W.heap[w.heap.size + 1]? = some (.cells cs 23 (0, 0)) ∧ Below w.heap.size w W
theorem UnderS.below {w W W' : World} {s : ByteArray} {a : Nat} {cs : Array Value} (h : UnderS w s a cs W) (hb : Below W.heap.size W W') : UnderS w s a cs W' :=
  ⟨(hb.cell (p := ⟨w.heap.size + 1 + 1, 0, none⟩) (cell_lt h.1)).trans h.1, (hb.cell (p := ⟨w.heap.size, 0, none⟩) (cell_lt h.2.1)).trans h.2.1, blk_below h.2.2.1 hb, below_step h.2.2.2 hb⟩
def noMark : Int × Int × Int × Int × Int × Int × Bool := (0, 0, 0, 0, 0, 0, false)
def mdmark_Under.f (a0 : ByteArray) (a1 : Int) : Option (Int × Int × Int × Int × Int × Int × Bool) :=
  (mdmark_ahead.f a0 a1).bind fun x =>
    if x.2 = true then (if 0 ≤ a1 ∧ a1 < (x.1.size : Int) ∧ x.1.size ≤ 140737488355328 then
      (if bt x.1 a1 = 61 ∨ bt x.1 a1 = 45 then
        (mdmark_last.f x.1 a1).bind fun l =>
          if l = ((far (isB (bt x.1 a1)) x.1 a1.toNat : Nat) : Int) then some (bt x.1 a1, ((far (isB (bt x.1 a1)) x.1 a1.toNat - a1.toNat : Nat) : Int), 0, 0, 0, ((far (isB (bt x.1 a1)) x.1 a1.toNat : Nat) : Int), true) else some noMark
      else some noMark) else none) else some noMark
set_option maxHeartbeats 2000000 in
set_option maxRecDepth 100000 in
theorem under_none (a0 : ByteArray) (a1 : Int) (s : ByteArray) (w : World) (hx : mdmark_ahead.f a0 a1 = some (s, false)) :
    Calls Tryd.prog 17 #[.string a0, .int .i64 a1] w fun e w' => e = .returned (.tuple #[.agg #[.int .u8 0, .int .i64 0, .int .i64 0, .int .i64 0, .int .i64 0, .int .i64 0], .bool false]) ∧ Below w.heap.size w w' := by
  have c1 := Lib.hid (fun W => mdmark_ahead.calls a0 a1 s false W hx)
  have hu := Tryd.underlying23
  go_enter Tryd.func17, Tryd.ntmps17
  go_wp2_with (go_at_call 26; refine (c1.out _).mono ?_; rintro e W1 ⟨rfl, hd⟩; obtain ⟨k1, z1, b1⟩ := under_blk hd; have A0 := under_at hd; clear hd; have K1 := Lib.hid k1; have B1 := Lib.hid b1; have C0 := blk_cell k1 0; have C1 := blk_cell k1 1; have C2 := blk_cell k1 2; have C3 := blk_cell k1 3; have C4 := blk_cell k1 4; have C5 := blk_cell k1 5; have F0 := blk_frozen k1 0; have F1 := blk_frozen k1 1; have F2 := blk_frozen k1 2; have F3 := blk_frozen k1 3; have F4 := blk_frozen k1 4; have F5 := blk_frozen k1 5; clear k1 b1)
  refine bodyPost_ret (results_ct rfl _ _ (w.heap.size + 1) 23 #[.int .u8 0, .int .i64 0, .int .i64 0, .int .i64 0, .int .i64 0, .int .i64 0] (0, 0) _ rfl ?hk Tryd.underlying23 rfl (by kernel_rfl)) rfl ⟨rfl, ?_⟩
  case hk =>
    refine blk_alloc ?_ _
    refine blk_put (cs := #[.int .u8 0, .int .i64 0, .int .i64 0, .int .i64 0, .int .i64 0, .int .i64 0]) ?_ 5 _ rfl
    refine blk_put (cs := #[.int .u8 0, .int .i64 0, .int .i64 0, .int .i64 0, .int .i64 0, .int .i64 0]) ?_ 4 _ rfl
    refine blk_put (cs := #[.int .u8 0, .int .i64 0, .int .i64 0, .int .i64 0, .int .i64 0, .int .i64 0]) ?_ 3 _ rfl
    refine blk_put (cs := #[.int .u8 0, .int .i64 0, .int .i64 0, .int .i64 0, .int .i64 0, .int .i64 0]) ?_ 2 _ rfl
    refine blk_put (cs := #[.int .u8 0, .int .i64 0, .int .i64 0, .int .i64 0, .int .i64 0, .int .i64 0]) ?_ 1 _ rfl
    exact blk_put (cs := #[.int .u8 0, .int .i64 0, .int .i64 0, .int .i64 0, .int .i64 0, .int .i64 0]) K1.out 0 _ rfl
  · with_reducible repeat (first | exact B1.out | apply below_alloc | apply pw_below_drewN | apply below_drew1 | refine below_set ?_ (show w.heap.size ≤ w.heap.size + 1 by omega))
set_option maxHeartbeats 2000000 in
set_option maxRecDepth 100000 in
theorem under_other (a0 : ByteArray) (a : Nat) (s : ByteArray) (w : World) (hx : mdmark_ahead.f a0 a = some (s, true)) (hlt : a < s.size) (hs : s.size ≤ 140737488355328) (hc : bt s a ≠ 61 ∧ bt s a ≠ 45) :
    Calls Tryd.prog 17 #[.string a0, .int .i64 a] w fun e w' => e = .returned (.tuple #[.agg #[.int .u8 0, .int .i64 0, .int .i64 0, .int .i64 0, .int .i64 0, .int .i64 0], .bool false]) ∧ Below w.heap.size w w' := by
  have c1 := Lib.hid (fun W => mdmark_ahead.calls a0 a s true W hx)
  have hu := Tryd.underlying23
  have E : ((s[a]'hlt).toNat : Int) = bt s a := by simpa using bt_at s a (by omega)
  have e1 : (((s[a]'hlt).toNat : Int) != 61) = true := bne_iff_ne.2 (by rw [E]; exact hc.1)
  have e2 : (((s[a]'hlt).toNat : Int) != 45) = true := bne_iff_ne.2 (by rw [E]; exact hc.2)
  clear E hc
  go_enter Tryd.func17, Tryd.ntmps17
  go_wp2_with (go_at_call 26; refine (c1.out _).mono ?_; rintro e W1 ⟨rfl, hd⟩; obtain ⟨k1, z1, b1⟩ := under_blk hd; have A0 := under_at hd; clear hd; have K1 := Lib.hid k1; have B1 := Lib.hid b1; have C0 := blk_cell k1 0; have C1 := blk_cell k1 1; have C2 := blk_cell k1 2; have C3 := blk_cell k1 3; have C4 := blk_cell k1 4; have C5 := blk_cell k1 5; have F0 := blk_frozen k1 0; have F1 := blk_frozen k1 1; have F2 := blk_frozen k1 2; have F3 := blk_frozen k1 3; have F4 := blk_frozen k1 4; have F5 := blk_frozen k1 5; clear k1 b1)
  refine bodyPost_ret (results_ct rfl _ _ (w.heap.size + 1) 23 #[.int .u8 0, .int .i64 0, .int .i64 0, .int .i64 0, .int .i64 0, .int .i64 0] (0, 0) _ rfl ?hk Tryd.underlying23 rfl (by kernel_rfl)) rfl ⟨rfl, ?_⟩
  case hk =>
    refine blk_alloc ?_ _
    refine blk_put (cs := #[.int .u8 0, .int .i64 0, .int .i64 0, .int .i64 0, .int .i64 0, .int .i64 0]) ?_ 5 _ rfl
    refine blk_put (cs := #[.int .u8 0, .int .i64 0, .int .i64 0, .int .i64 0, .int .i64 0, .int .i64 0]) ?_ 4 _ rfl
    refine blk_put (cs := #[.int .u8 0, .int .i64 0, .int .i64 0, .int .i64 0, .int .i64 0, .int .i64 0]) ?_ 3 _ rfl
    refine blk_put (cs := #[.int .u8 0, .int .i64 0, .int .i64 0, .int .i64 0, .int .i64 0, .int .i64 0]) ?_ 2 _ rfl
    refine blk_put (cs := #[.int .u8 0, .int .i64 0, .int .i64 0, .int .i64 0, .int .i64 0, .int .i64 0]) ?_ 1 _ rfl
    exact blk_put (cs := #[.int .u8 0, .int .i64 0, .int .i64 0, .int .i64 0, .int .i64 0, .int .i64 0]) K1.out 0 _ rfl
  · with_reducible repeat (first | exact B1.out | apply below_alloc | apply pw_below_drewN | apply below_drew1 | refine below_set ?_ (show w.heap.size ≤ w.heap.size + 1 by omega))
set_option maxHeartbeats 2000000 in
set_option maxRecDepth 100000 in
theorem under_more61 (a0 : ByteArray) (a : Nat) (s : ByteArray) (l : Int) (w : World) (hx : mdmark_ahead.f a0 a = some (s, true)) (hlt : a < s.size) (hs : s.size ≤ 140737488355328) (hc : bt s a = 61) (hl : mdmark_last.f s a = some l) (hlF : l ≠ ((far (isB (bt s a)) s a : Nat) : Int)) :
    Calls Tryd.prog 17 #[.string a0, .int .i64 a] w fun e w' => e = .returned (.tuple #[.agg #[.int .u8 0, .int .i64 0, .int .i64 0, .int .i64 0, .int .i64 0, .int .i64 0], .bool false]) ∧ Below w.heap.size w w' := by
  have c1 := Lib.hid (fun W => mdmark_ahead.calls a0 a s true W hx)
  have c2 := Lib.hid (fun ps pa W h1 h2 => row_under s a ps pa W h1 h2 hs hlt)
  have c3 := Lib.hid (fun W => mdmark_last.calls s a l W hl)
  have hfl : a ≤ far (isB (bt s a)) s a ∧ far (isB (bt s a)) s a ≤ a + (s.size - a) := ⟨stretch_le.2, stretch_le.1⟩
  generalize far (isB (bt s a)) s a = F at c2 hfl hlF ⊢
  have hfl' := Lib.hid hfl
  clear hfl
  have hu := Tryd.underlying23
  have E : ((s[a]'hlt).toNat : Int) = bt s a := by simpa using bt_at s a (by omega)
  have e1 : (((s[a]'hlt).toNat : Int) != 61) = false := bne_eq_false_iff_eq.2 (by rw [E]; exact hc)
  have E' := Lib.hid E
  clear E hc
  go_enter Tryd.func17, Tryd.ntmps17
  go_wp2_with (first | (go_at_call 26; refine (c1.out _).mono ?_; rintro e W1 ⟨rfl, hd⟩; obtain ⟨k1, z1, b1⟩ := under_blk hd; have A0 := under_at hd; clear hd; have K1 := Lib.hid k1; have B1 := Lib.hid b1; clear k1 b1) | (go_at_call 27; refine (c2.out _ _ _ (by go_simp) (by go_simp)).mono ?_; rintro e W2 ⟨rfl, hd2⟩; obtain ⟨k2, A2, S2, z2, b2⟩ := under_two hd2 z1 K1.out A0 B1.out; clear hd2 z1 A0))
  have hU : UnderS w s a #[.int .u8 0, .int .i64 0, .int .i64 0, .int .i64 0, .int .i64 0, .int .i64 0] W2 := ⟨S2, A2, k2, b2⟩
  have c4 := Lib.hid (fun W (h : UnderS w s a #[.int .u8 0, .int .i64 0, .int .i64 0, .int .i64 0, .int .i64 0, .int .i64 0] W) => (mdmark_last.calls s a l W hl).mono (fun e W' h' => (⟨h'.1, h.below h'.2⟩ : _ ∧ UnderS w s a _ W')))
  have hV : UnderS w s a #[.int .u8 0, .int .i64 0, .int .i64 0, .int .i64 0, .int .i64 0, .int .i64 0] W2.drew := hU.below (by with_reducible repeat (first | exact Below.refl _ _ | apply pw_below_drewN | apply below_drew1))
  clear S2 A2 k2 b2
  go_region_held3 (fun W => W.cell? ⟨w.heap.size + 1 + 1, 0, none⟩ = some (.string s) ∧ W.cell? ⟨w.heap.size, 0, none⟩ = some (.int .i64 a) ∧ UnderS w s a #[.int .u8 0, .int .i64 0, .int .i64 0, .int .i64 0, .int .i64 0, .int .i64 0] W) (first | exact ⟨hV.1, hV.2.1, hV⟩ | exact ⟨hU3.1, hU3.2.1, hU3⟩) (first | (go_at_call 30; refine (c4.out _ hV).mono ?_; rintro e W3 ⟨rfl, hU3⟩))
  have ew : IntKind.i64.wrap ((a : Int) + ((F - a : Nat) : Int)) = (F : Int) := by
    have h1 := hfl'.out
    rw [i64_w]; unfold wrap64; omega
  rw [ew]
  obtain ⟨S3, A3, k3, b3⟩ := hU3
  have K3 := Lib.hid k3
  have B3 := Lib.hid b3
  have C0 := blk_cell k3 0; have C1 := blk_cell k3 1; have C2 := blk_cell k3 2; have C3 := blk_cell k3 3; have C4 := blk_cell k3 4; have C5 := blk_cell k3 5; have F0 := blk_frozen k3 0; have F1 := blk_frozen k3 1; have F2 := blk_frozen k3 2; have F3 := blk_frozen k3 3; have F4 := blk_frozen k3 4; have F5 := blk_frozen k3 5
  clear k3 b3 hU hV c4 c1 c2 c3
  have el : (l != (F : Int)) = true := bne_iff_ne.2 hlF
  go_wp2
  refine bodyPost_ret (results_ct rfl _ _ (w.heap.size + 1) 23 #[.int .u8 0, .int .i64 0, .int .i64 0, .int .i64 0, .int .i64 0, .int .i64 0] (0, 0) _ rfl ?hk Tryd.underlying23 rfl (by kernel_rfl)) rfl ⟨rfl, ?_⟩
  case hk =>
    refine blk_put (cs := #[.int .u8 0, .int .i64 0, .int .i64 0, .int .i64 0, .int .i64 0, .int .i64 0]) ?_ 5 _ rfl
    refine blk_put (cs := #[.int .u8 0, .int .i64 0, .int .i64 0, .int .i64 0, .int .i64 0, .int .i64 0]) ?_ 4 _ rfl
    refine blk_put (cs := #[.int .u8 0, .int .i64 0, .int .i64 0, .int .i64 0, .int .i64 0, .int .i64 0]) ?_ 3 _ rfl
    refine blk_put (cs := #[.int .u8 0, .int .i64 0, .int .i64 0, .int .i64 0, .int .i64 0, .int .i64 0]) ?_ 2 _ rfl
    refine blk_put (cs := #[.int .u8 0, .int .i64 0, .int .i64 0, .int .i64 0, .int .i64 0, .int .i64 0]) ?_ 1 _ rfl
    exact blk_put (cs := #[.int .u8 0, .int .i64 0, .int .i64 0, .int .i64 0, .int .i64 0, .int .i64 0]) K3.out 0 _ rfl
  · with_reducible repeat (first | exact B3.out | apply below_alloc | apply pw_below_drewN | apply below_drew1 | refine below_set ?_ (show w.heap.size ≤ w.heap.size + 1 by omega))
set_option maxHeartbeats 2000000 in
set_option maxRecDepth 100000 in
theorem under_more45 (a0 : ByteArray) (a : Nat) (s : ByteArray) (l : Int) (w : World) (hx : mdmark_ahead.f a0 a = some (s, true)) (hlt : a < s.size) (hs : s.size ≤ 140737488355328) (hc : bt s a = 45) (hl : mdmark_last.f s a = some l) (hlF : l ≠ ((far (isB (bt s a)) s a : Nat) : Int)) :
    Calls Tryd.prog 17 #[.string a0, .int .i64 a] w fun e w' => e = .returned (.tuple #[.agg #[.int .u8 0, .int .i64 0, .int .i64 0, .int .i64 0, .int .i64 0, .int .i64 0], .bool false]) ∧ Below w.heap.size w w' := by
  have c1 := Lib.hid (fun W => mdmark_ahead.calls a0 a s true W hx)
  have c2 := Lib.hid (fun ps pa W h1 h2 => row_under s a ps pa W h1 h2 hs hlt)
  have c3 := Lib.hid (fun W => mdmark_last.calls s a l W hl)
  have hfl : a ≤ far (isB (bt s a)) s a ∧ far (isB (bt s a)) s a ≤ a + (s.size - a) := ⟨stretch_le.2, stretch_le.1⟩
  generalize far (isB (bt s a)) s a = F at c2 hfl hlF ⊢
  have hfl' := Lib.hid hfl
  clear hfl
  have hu := Tryd.underlying23
  have E : ((s[a]'hlt).toNat : Int) = bt s a := by simpa using bt_at s a (by omega)
  have e1 : (((s[a]'hlt).toNat : Int) != 61) = true := bne_iff_ne.2 (by rw [E, hc]; decide)
  have e2 : (((s[a]'hlt).toNat : Int) != 45) = false := bne_eq_false_iff_eq.2 (by rw [E]; exact hc)
  have E' := Lib.hid E
  clear E hc
  go_enter Tryd.func17, Tryd.ntmps17
  go_wp2_with (first | (go_at_call 26; refine (c1.out _).mono ?_; rintro e W1 ⟨rfl, hd⟩; obtain ⟨k1, z1, b1⟩ := under_blk hd; have A0 := under_at hd; clear hd; have K1 := Lib.hid k1; have B1 := Lib.hid b1; clear k1 b1) | (go_at_call 27; refine (c2.out _ _ _ (by go_simp) (by go_simp)).mono ?_; rintro e W2 ⟨rfl, hd2⟩; obtain ⟨k2, A2, S2, z2, b2⟩ := under_two hd2 z1 K1.out A0 B1.out; clear hd2 z1 A0))
  have hU : UnderS w s a #[.int .u8 0, .int .i64 0, .int .i64 0, .int .i64 0, .int .i64 0, .int .i64 0] W2 := ⟨S2, A2, k2, b2⟩
  have c4 := Lib.hid (fun W (h : UnderS w s a #[.int .u8 0, .int .i64 0, .int .i64 0, .int .i64 0, .int .i64 0, .int .i64 0] W) => (mdmark_last.calls s a l W hl).mono (fun e W' h' => (⟨h'.1, h.below h'.2⟩ : _ ∧ UnderS w s a _ W')))
  have hV : UnderS w s a #[.int .u8 0, .int .i64 0, .int .i64 0, .int .i64 0, .int .i64 0, .int .i64 0] W2.drew := hU.below (by with_reducible repeat (first | exact Below.refl _ _ | apply pw_below_drewN | apply below_drew1))
  clear S2 A2 k2 b2
  go_region_held3 (fun W => W.cell? ⟨w.heap.size + 1 + 1, 0, none⟩ = some (.string s) ∧ W.cell? ⟨w.heap.size, 0, none⟩ = some (.int .i64 a) ∧ UnderS w s a #[.int .u8 0, .int .i64 0, .int .i64 0, .int .i64 0, .int .i64 0, .int .i64 0] W) (first | exact ⟨hV.1, hV.2.1, hV⟩ | exact ⟨hU3.1, hU3.2.1, hU3⟩) (first | (go_at_call 30; refine (c4.out _ hV).mono ?_; rintro e W3 ⟨rfl, hU3⟩))
  have ew : IntKind.i64.wrap ((a : Int) + ((F - a : Nat) : Int)) = (F : Int) := by
    have h1 := hfl'.out
    rw [i64_w]; unfold wrap64; omega
  rw [ew]
  obtain ⟨S3, A3, k3, b3⟩ := hU3
  have K3 := Lib.hid k3
  have B3 := Lib.hid b3
  have C0 := blk_cell k3 0; have C1 := blk_cell k3 1; have C2 := blk_cell k3 2; have C3 := blk_cell k3 3; have C4 := blk_cell k3 4; have C5 := blk_cell k3 5; have F0 := blk_frozen k3 0; have F1 := blk_frozen k3 1; have F2 := blk_frozen k3 2; have F3 := blk_frozen k3 3; have F4 := blk_frozen k3 4; have F5 := blk_frozen k3 5
  clear k3 b3 hU hV c4 c1 c2 c3
  have el : (l != (F : Int)) = true := bne_iff_ne.2 hlF
  go_wp2
  refine bodyPost_ret (results_ct rfl _ _ (w.heap.size + 1) 23 #[.int .u8 0, .int .i64 0, .int .i64 0, .int .i64 0, .int .i64 0, .int .i64 0] (0, 0) _ rfl ?hk Tryd.underlying23 rfl (by kernel_rfl)) rfl ⟨rfl, ?_⟩
  case hk =>
    refine blk_put (cs := #[.int .u8 0, .int .i64 0, .int .i64 0, .int .i64 0, .int .i64 0, .int .i64 0]) ?_ 5 _ rfl
    refine blk_put (cs := #[.int .u8 0, .int .i64 0, .int .i64 0, .int .i64 0, .int .i64 0, .int .i64 0]) ?_ 4 _ rfl
    refine blk_put (cs := #[.int .u8 0, .int .i64 0, .int .i64 0, .int .i64 0, .int .i64 0, .int .i64 0]) ?_ 3 _ rfl
    refine blk_put (cs := #[.int .u8 0, .int .i64 0, .int .i64 0, .int .i64 0, .int .i64 0, .int .i64 0]) ?_ 2 _ rfl
    refine blk_put (cs := #[.int .u8 0, .int .i64 0, .int .i64 0, .int .i64 0, .int .i64 0, .int .i64 0]) ?_ 1 _ rfl
    exact blk_put (cs := #[.int .u8 0, .int .i64 0, .int .i64 0, .int .i64 0, .int .i64 0, .int .i64 0]) K3.out 0 _ rfl
  · with_reducible repeat (first | exact B3.out | apply below_alloc | apply pw_below_drewN | apply below_drew1 | refine below_set ?_ (show w.heap.size ≤ w.heap.size + 1 by omega))
set_option maxHeartbeats 2000000 in
set_option maxRecDepth 100000 in
theorem under_told61 (a0 : ByteArray) (a : Nat) (s : ByteArray) (l : Int) (w : World) (hx : mdmark_ahead.f a0 a = some (s, true)) (hlt : a < s.size) (hs : s.size ≤ 140737488355328) (hc : bt s a = 61) (hl : mdmark_last.f s a = some l) (hlF : l = ((far (isB (bt s a)) s a : Nat) : Int)) :
    Calls Tryd.prog 17 #[.string a0, .int .i64 a] w fun e w' => e = .returned (.tuple #[.agg #[.int .u8 (bt s a), .int .i64 ((far (isB (bt s a)) s a - a : Nat)), .int .i64 0, .int .i64 0, .int .i64 0, .int .i64 ((far (isB (bt s a)) s a : Nat))], .bool true]) ∧ Below w.heap.size w w' := by
  have c1 := Lib.hid (fun W => mdmark_ahead.calls a0 a s true W hx)
  have c2 := Lib.hid (fun ps pa W h1 h2 => row_under s a ps pa W h1 h2 hs hlt)
  have c3 := Lib.hid (fun W => mdmark_last.calls s a l W hl)
  have hfl : a ≤ far (isB (bt s a)) s a ∧ far (isB (bt s a)) s a ≤ a + (s.size - a) := ⟨stretch_le.2, stretch_le.1⟩
  generalize far (isB (bt s a)) s a = F at c2 hfl hlF ⊢
  have hfl' := Lib.hid hfl
  clear hfl
  have hu := Tryd.underlying23
  have E : ((s[a]'hlt).toNat : Int) = bt s a := by simpa using bt_at s a (by omega)
  have e1 : (((s[a]'hlt).toNat : Int) != 61) = false := bne_eq_false_iff_eq.2 (by rw [E]; exact hc)
  have E' := Lib.hid E
  clear E hc
  go_enter Tryd.func17, Tryd.ntmps17
  go_wp2_with (first | (go_at_call 26; refine (c1.out _).mono ?_; rintro e W1 ⟨rfl, hd⟩; obtain ⟨k1, z1, b1⟩ := under_blk hd; have A0 := under_at hd; clear hd; have K1 := Lib.hid k1; have B1 := Lib.hid b1; clear k1 b1) | (go_at_call 27; refine (c2.out _ _ _ (by go_simp) (by go_simp)).mono ?_; rintro e W2 ⟨rfl, hd2⟩; obtain ⟨k2, A2, S2, z2, b2⟩ := under_two hd2 z1 K1.out A0 B1.out; clear hd2 z1 A0))
  have hU : UnderS w s a #[.int .u8 0, .int .i64 0, .int .i64 0, .int .i64 0, .int .i64 0, .int .i64 0] W2 := ⟨S2, A2, k2, b2⟩
  have c4 := Lib.hid (fun W (h : UnderS w s a #[.int .u8 0, .int .i64 0, .int .i64 0, .int .i64 0, .int .i64 0, .int .i64 0] W) => (mdmark_last.calls s a l W hl).mono (fun e W' h' => (⟨h'.1, h.below h'.2⟩ : _ ∧ UnderS w s a _ W')))
  have hV : UnderS w s a #[.int .u8 0, .int .i64 0, .int .i64 0, .int .i64 0, .int .i64 0, .int .i64 0] W2.drew := hU.below (by with_reducible repeat (first | exact Below.refl _ _ | apply pw_below_drewN | apply below_drew1))
  clear S2 A2 k2 b2
  go_region_held3 (fun W => W.cell? ⟨w.heap.size + 1 + 1, 0, none⟩ = some (.string s) ∧ W.cell? ⟨w.heap.size, 0, none⟩ = some (.int .i64 a) ∧ UnderS w s a #[.int .u8 0, .int .i64 0, .int .i64 0, .int .i64 0, .int .i64 0, .int .i64 0] W) (first | exact ⟨hV.1, hV.2.1, hV⟩ | exact ⟨hU3.1, hU3.2.1, hU3⟩) (first | (go_at_call 30; refine (c4.out _ hV).mono ?_; rintro e W3 ⟨rfl, hU3⟩))
  have ew : IntKind.i64.wrap ((a : Int) + ((F - a : Nat) : Int)) = (F : Int) := by
    have h1 := hfl'.out
    rw [i64_w]; unfold wrap64; omega
  rw [ew]
  obtain ⟨S3, A3, k3, b3⟩ := hU3
  have K3 := Lib.hid k3
  have B3 := Lib.hid b3
  have C0 := blk_cell k3 0; have C1 := blk_cell k3 1; have C2 := blk_cell k3 2; have C3 := blk_cell k3 3; have C4 := blk_cell k3 4; have C5 := blk_cell k3 5; have F0 := blk_frozen k3 0; have F1 := blk_frozen k3 1; have F2 := blk_frozen k3 2; have F3 := blk_frozen k3 3; have F4 := blk_frozen k3 4; have F5 := blk_frozen k3 5
  clear k3 b3 hU hV c4 c1 c2 c3
  have el : (l != (F : Int)) = false := bne_eq_false_iff_eq.2 hlF
  subst hlF
  go_wp2
  go_region
  go_wp2
  refine bodyPost_ret (results_ct rfl _ _ (w.heap.size + 1) 23 #[.int .u8 ((s[a]'hlt).toNat), .int .i64 ((F - a : Nat)), .int .i64 0, .int .i64 0, .int .i64 0, .int .i64 ((F : Nat))] (0, 0) _ rfl ?hk Tryd.underlying23 rfl (by kernel_rfl)) rfl ⟨by rw [E'.out]; rfl, ?_⟩
  case hk =>
    refine blk_drew ?_
    refine blk_put (cs := #[.int .u8 ((s[a]'hlt).toNat), .int .i64 ((F - a : Nat)), .int .i64 0, .int .i64 0, .int .i64 0, .int .i64 0]) ?_ 5 _ rfl
    refine blk_put (cs := #[.int .u8 ((s[a]'hlt).toNat), .int .i64 ((F - a : Nat)), .int .i64 0, .int .i64 0, .int .i64 0, .int .i64 0]) ?_ 4 _ rfl
    refine blk_put (cs := #[.int .u8 ((s[a]'hlt).toNat), .int .i64 ((F - a : Nat)), .int .i64 0, .int .i64 0, .int .i64 0, .int .i64 0]) ?_ 3 _ rfl
    refine blk_put (cs := #[.int .u8 ((s[a]'hlt).toNat), .int .i64 ((F - a : Nat)), .int .i64 0, .int .i64 0, .int .i64 0, .int .i64 0]) ?_ 2 _ rfl
    refine blk_put (cs := #[.int .u8 ((s[a]'hlt).toNat), .int .i64 0, .int .i64 0, .int .i64 0, .int .i64 0, .int .i64 0]) ?_ 1 _ rfl
    exact blk_put (cs := #[.int .u8 0, .int .i64 0, .int .i64 0, .int .i64 0, .int .i64 0, .int .i64 0]) K3.out 0 _ rfl
  · with_reducible repeat (first | exact B3.out | apply below_alloc | apply pw_below_drewN | apply below_drew1 | refine below_set ?_ (show w.heap.size ≤ w.heap.size + 1 by omega))
set_option maxHeartbeats 2000000 in
set_option maxRecDepth 100000 in
theorem under_told45 (a0 : ByteArray) (a : Nat) (s : ByteArray) (l : Int) (w : World) (hx : mdmark_ahead.f a0 a = some (s, true)) (hlt : a < s.size) (hs : s.size ≤ 140737488355328) (hc : bt s a = 45) (hl : mdmark_last.f s a = some l) (hlF : l = ((far (isB (bt s a)) s a : Nat) : Int)) :
    Calls Tryd.prog 17 #[.string a0, .int .i64 a] w fun e w' => e = .returned (.tuple #[.agg #[.int .u8 (bt s a), .int .i64 ((far (isB (bt s a)) s a - a : Nat)), .int .i64 0, .int .i64 0, .int .i64 0, .int .i64 ((far (isB (bt s a)) s a : Nat))], .bool true]) ∧ Below w.heap.size w w' := by
  have c1 := Lib.hid (fun W => mdmark_ahead.calls a0 a s true W hx)
  have c2 := Lib.hid (fun ps pa W h1 h2 => row_under s a ps pa W h1 h2 hs hlt)
  have c3 := Lib.hid (fun W => mdmark_last.calls s a l W hl)
  have hfl : a ≤ far (isB (bt s a)) s a ∧ far (isB (bt s a)) s a ≤ a + (s.size - a) := ⟨stretch_le.2, stretch_le.1⟩
  generalize far (isB (bt s a)) s a = F at c2 hfl hlF ⊢
  have hfl' := Lib.hid hfl
  clear hfl
  have hu := Tryd.underlying23
  have E : ((s[a]'hlt).toNat : Int) = bt s a := by simpa using bt_at s a (by omega)
  have e1 : (((s[a]'hlt).toNat : Int) != 61) = true := bne_iff_ne.2 (by rw [E, hc]; decide)
  have e2 : (((s[a]'hlt).toNat : Int) != 45) = false := bne_eq_false_iff_eq.2 (by rw [E]; exact hc)
  have E' := Lib.hid E
  clear E hc
  go_enter Tryd.func17, Tryd.ntmps17
  go_wp2_with (first | (go_at_call 26; refine (c1.out _).mono ?_; rintro e W1 ⟨rfl, hd⟩; obtain ⟨k1, z1, b1⟩ := under_blk hd; have A0 := under_at hd; clear hd; have K1 := Lib.hid k1; have B1 := Lib.hid b1; clear k1 b1) | (go_at_call 27; refine (c2.out _ _ _ (by go_simp) (by go_simp)).mono ?_; rintro e W2 ⟨rfl, hd2⟩; obtain ⟨k2, A2, S2, z2, b2⟩ := under_two hd2 z1 K1.out A0 B1.out; clear hd2 z1 A0))
  have hU : UnderS w s a #[.int .u8 0, .int .i64 0, .int .i64 0, .int .i64 0, .int .i64 0, .int .i64 0] W2 := ⟨S2, A2, k2, b2⟩
  have c4 := Lib.hid (fun W (h : UnderS w s a #[.int .u8 0, .int .i64 0, .int .i64 0, .int .i64 0, .int .i64 0, .int .i64 0] W) => (mdmark_last.calls s a l W hl).mono (fun e W' h' => (⟨h'.1, h.below h'.2⟩ : _ ∧ UnderS w s a _ W')))
  have hV : UnderS w s a #[.int .u8 0, .int .i64 0, .int .i64 0, .int .i64 0, .int .i64 0, .int .i64 0] W2.drew := hU.below (by with_reducible repeat (first | exact Below.refl _ _ | apply pw_below_drewN | apply below_drew1))
  clear S2 A2 k2 b2
  go_region_held3 (fun W => W.cell? ⟨w.heap.size + 1 + 1, 0, none⟩ = some (.string s) ∧ W.cell? ⟨w.heap.size, 0, none⟩ = some (.int .i64 a) ∧ UnderS w s a #[.int .u8 0, .int .i64 0, .int .i64 0, .int .i64 0, .int .i64 0, .int .i64 0] W) (first | exact ⟨hV.1, hV.2.1, hV⟩ | exact ⟨hU3.1, hU3.2.1, hU3⟩) (first | (go_at_call 30; refine (c4.out _ hV).mono ?_; rintro e W3 ⟨rfl, hU3⟩))
  have ew : IntKind.i64.wrap ((a : Int) + ((F - a : Nat) : Int)) = (F : Int) := by
    have h1 := hfl'.out
    rw [i64_w]; unfold wrap64; omega
  rw [ew]
  obtain ⟨S3, A3, k3, b3⟩ := hU3
  have K3 := Lib.hid k3
  have B3 := Lib.hid b3
  have C0 := blk_cell k3 0; have C1 := blk_cell k3 1; have C2 := blk_cell k3 2; have C3 := blk_cell k3 3; have C4 := blk_cell k3 4; have C5 := blk_cell k3 5; have F0 := blk_frozen k3 0; have F1 := blk_frozen k3 1; have F2 := blk_frozen k3 2; have F3 := blk_frozen k3 3; have F4 := blk_frozen k3 4; have F5 := blk_frozen k3 5
  clear k3 b3 hU hV c4 c1 c2 c3
  have el : (l != (F : Int)) = false := bne_eq_false_iff_eq.2 hlF
  subst hlF
  go_wp2
  go_region
  go_wp2
  refine bodyPost_ret (results_ct rfl _ _ (w.heap.size + 1) 23 #[.int .u8 ((s[a]'hlt).toNat), .int .i64 ((F - a : Nat)), .int .i64 0, .int .i64 0, .int .i64 0, .int .i64 ((F : Nat))] (0, 0) _ rfl ?hk Tryd.underlying23 rfl (by kernel_rfl)) rfl ⟨by rw [E'.out]; rfl, ?_⟩
  case hk =>
    refine blk_drew ?_
    refine blk_put (cs := #[.int .u8 ((s[a]'hlt).toNat), .int .i64 ((F - a : Nat)), .int .i64 0, .int .i64 0, .int .i64 0, .int .i64 0]) ?_ 5 _ rfl
    refine blk_put (cs := #[.int .u8 ((s[a]'hlt).toNat), .int .i64 ((F - a : Nat)), .int .i64 0, .int .i64 0, .int .i64 0, .int .i64 0]) ?_ 4 _ rfl
    refine blk_put (cs := #[.int .u8 ((s[a]'hlt).toNat), .int .i64 ((F - a : Nat)), .int .i64 0, .int .i64 0, .int .i64 0, .int .i64 0]) ?_ 3 _ rfl
    refine blk_put (cs := #[.int .u8 ((s[a]'hlt).toNat), .int .i64 ((F - a : Nat)), .int .i64 0, .int .i64 0, .int .i64 0, .int .i64 0]) ?_ 2 _ rfl
    refine blk_put (cs := #[.int .u8 ((s[a]'hlt).toNat), .int .i64 0, .int .i64 0, .int .i64 0, .int .i64 0, .int .i64 0]) ?_ 1 _ rfl
    exact blk_put (cs := #[.int .u8 0, .int .i64 0, .int .i64 0, .int .i64 0, .int .i64 0, .int .i64 0]) K3.out 0 _ rfl
  · with_reducible repeat (first | exact B3.out | apply below_alloc | apply pw_below_drewN | apply below_drew1 | refine below_set ?_ (show w.heap.size ≤ w.heap.size + 1 by omega))
theorem mdmark_Under.calls (a0 : ByteArray) (a1 : Int) (r1 : Int) (r2 : Int) (r3 : Int) (r4 : Int) (r5 : Int) (r6 : Int) (r7 : Bool) (w : World) (h : mdmark_Under.f a0 a1 = some (r1, r2, r3, r4, r5, r6, r7)) :
    Calls Tryd.prog 17 #[.string a0, .int .i64 a1] w fun e w' => e = .returned (.tuple #[.agg #[.int .u8 r1, .int .i64 r2, .int .i64 r3, .int .i64 r4, .int .i64 r5, .int .i64 r6], .bool r7]) ∧ Below w.heap.size w w' := by
  unfold mdmark_Under.f at h
  obtain ⟨⟨s, ok⟩, hx, h⟩ := Option.bind_eq_some_iff.mp h
  cases ok with
  | false =>
    have h' : noMark = (r1, r2, r3, r4, r5, r6, r7) := by simpa using h
    simp only [noMark, Prod.mk.injEq] at h'
    obtain ⟨rfl, rfl, rfl, rfl, rfl, rfl, rfl⟩ := h'
    exact under_none a0 a1 s w hx
  | true =>
    by_cases hb : 0 ≤ a1 ∧ a1 < (s.size : Int) ∧ s.size ≤ 140737488355328
    rotate_left
    · simp [hb] at h
    obtain ⟨h0, hlt, hs⟩ := hb
    obtain ⟨a, rfl⟩ := Int.eq_ofNat_of_zero_le h0
    have hlt' : a < s.size := by omega
    simp only [h0, hlt, hs, and_self, if_true, Int.toNat_natCast] at h
    by_cases hc : bt s a = 61 ∨ bt s a = 45
    · rw [if_pos hc] at h
      obtain ⟨l, hl, h⟩ := Option.bind_eq_some_iff.mp h
      by_cases hlF : l = ((far (isB (bt s a)) s a : Nat) : Int)
      · rw [if_pos hlF] at h
        simp only [Option.some.injEq, Prod.mk.injEq] at h
        obtain ⟨rfl, rfl, rfl, rfl, rfl, rfl, rfl⟩ := h
        rcases hc with hc | hc
        · exact under_told61 a0 a s l w hx hlt' hs hc hl hlF
        · exact under_told45 a0 a s l w hx hlt' hs hc hl hlF
      · rw [if_neg hlF] at h
        simp only [noMark, Option.some.injEq, Prod.mk.injEq] at h
        obtain ⟨rfl, rfl, rfl, rfl, rfl, rfl, rfl⟩ := h
        rcases hc with hc | hc
        · exact under_more61 a0 a s l w hx hlt' hs hc hl hlF
        · exact under_more45 a0 a s l w hx hlt' hs hc hl hlF
    · rw [if_neg hc] at h
      simp only [noMark, Option.some.injEq, Prod.mk.injEq] at h
      obtain ⟨rfl, rfl, rfl, rfl, rfl, rfl, rfl⟩ := h
      exact under_other a0 a s w hx hlt' hs ⟨fun e => hc (.inl e), fun e => hc (.inr e)⟩
end Go.Proofs.YtgeddemohcbojaaDoor.P
