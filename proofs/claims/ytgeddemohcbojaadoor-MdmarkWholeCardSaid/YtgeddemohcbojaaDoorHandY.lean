/- A contract, walked by hand: mdmark.Item. Conditions: a text of at most 2^47 bytes. -/
import Derived.Test.YtgeddemohcbojaaDoorHandX
import Derived.Test.YtgeddemohcbojaaDoorLibA
import Derived.Deep.RegionHeld3
import Derived.Deep.DeepCutAuto
namespace Go.Proofs.YtgeddemohcbojaaDoor.P
open Go.RowKit Go.Proofs.YtgeddemohcbojaaDoorW.PrintWords Go.Proofs.YtgeddemohcbojaaDoorW.PrintLast Go.Proofs.YtgeddemohcbojaaDoorW.PrintMore
set_option linter.unusedVariables false
set_option linter.unusedSimpArgs false
/-- The number that m digits from k on tell. -/
def itemGo (e : ByteArray) : Nat → Nat → Int → Int
  | 0, _, n => n
  | m + 1, k, n => itemGo e m (k + 1) (10 * n + (bt e k - 48))
def itemTail (s : ByteArray) (ch cnt q : Int) : Option (Int × Int × Int × Int × Int × Int × Bool) :=
  (mdmark_parted.f s q).bind fun p => if p = true then (mdmark_last.f s q).bind fun l => some (ch, cnt, q, 0, 0, l, true) else some noMark
def itemLen (s : ByteArray) (a : Nat) : Nat := far isDigit s a - a
def mdmark_Item.f (a0 : ByteArray) (a1 : Int) : Option (Int × Int × Int × Int × Int × Int × Bool) :=
  (mdmark_ahead.f a0 a1).bind fun x =>
    if x.2 = true then (if 0 ≤ a1 ∧ a1 < (x.1.size : Int) ∧ x.1.size ≤ 140737488355328 then
      (if 0 ≤ Lib.indexByte [45, 43, 42] (bt x.1 a1).toNat.toUInt8 then itemTail x.1 (bt x.1 a1) 0 (a1 + 1)
      else if itemLen x.1 a1.toNat < 1 ∨ 9 < itemLen x.1 a1.toNat ∨ a1.toNat + itemLen x.1 a1.toNat = x.1.size ∨ (bt x.1 ((a1.toNat + itemLen x.1 a1.toNat : Nat) : Int) ≠ 46 ∧ bt x.1 ((a1.toNat + itemLen x.1 a1.toNat : Nat) : Int) ≠ 41) then some noMark
      else itemTail x.1 (bt x.1 ((a1.toNat + itemLen x.1 a1.toNat : Nat) : Int)) (itemGo (x.1.extract a1.toNat (a1.toNat + itemLen x.1 a1.toNat)) (itemLen x.1 a1.toNat) 0 0) ((a1.toNat + itemLen x.1 a1.toNat + 1 : Nat) : Int)) else none) else some noMark
theorem item_two {w W1 : World} {cs ds : Array Value} {t : TypeId} (k : W1.heap[w.heap.size]? = some (.cells cs t (0, 0))) (z : W1.heap.size = w.heap.size + 1) (b : Below w.heap.size w W1) :
    (W1.alloc (.cells ds t (0, 0))).heap[w.heap.size + 1]? = some (.cells ds t (0, 0)) ∧ (W1.alloc (.cells ds t (0, 0))).heap[w.heap.size]? = some (.cells cs t (0, 0)) ∧ Below w.heap.size w (W1.alloc (.cells ds t (0, 0))) := by
  have := blk_new W1 (.cells ds t (0, 0))
  rw [z] at this
  exact ⟨this, blk_alloc k _, below_alloc b _⟩
/-- What Item's walk keeps: the mark's block, the result's. -/
def ItemM (w : World) (cs : Array Value) (W : World) : Prop := W.heap[w.heap.size + 1]? = some (.cells cs 23 (0, 0)) ∧ W.heap[w.heap.size]? = some (.cells #[.int .u8 0, .int .i64 0, .int .i64 0, .int .i64 0, .int .i64 0, .int .i64 0] 23 (0, 0)) ∧ Below w.heap.size w W
theorem ItemM.below {w W W' : World} {cs : Array Value} (h : ItemM w cs W) (hb : Below W.heap.size W W') : ItemM w cs W' := ⟨blk_below h.1 hb, blk_below h.2.1 hb, below_step h.2.2 hb⟩
theorem ItemM.drawn {w W W' : World} {cs : Array Value} (h : ItemM w cs W) (hb : Drawn0 W W') : ItemM w cs W' := h.below hb.below
theorem ItemM.put {w W : World} {cs cs' : Array Value} (h : ItemM w cs W) (i : Nat) (u : Value) (e : cs.setIfInBounds i u = cs') : ItemM w cs' (W.setCell ⟨w.heap.size + 1, i, none⟩ u) :=
  ⟨blk_put h.1 i u e, blk_far h.2.1 (show w.heap.size ≠ w.heap.size + 1 by omega) u, below_set h.2.2 (by omega)⟩
def ItemL (w : World) (e : ByteArray) (ch q : Int) (m b : Nat) (R : Int) (i : Value) (W : World) : Prop :=
  ∃ (k : Nat) (n : Int), k ≤ m ∧ i = .int .i64 k ∧ 0 ≤ n ∧ n < ((10 ^ k : Nat) : Int) ∧ itemGo e (m - k) k n = R ∧ ItemM w #[.int .u8 ch, .int .i64 n, .int .i64 q, .int .i64 0, .int .i64 0, .int .i64 0] W ∧ ∀ j : Nat, j < m → W.cell? ⟨b, j, none⟩ = some (.int .u8 (bt e j))
theorem itemGo_more {e : ByteArray} {m k : Nat} {n R : Int} (h : itemGo e (m - k) k n = R) (hk : k < m) : itemGo e (m - (k + 1)) (k + 1) (10 * n + (bt e k - 48)) = R := by
  obtain ⟨d, hd⟩ : ∃ d, m - k = d + 1 := ⟨m - k - 1, by omega⟩
  rw [hd] at h
  rw [show m - (k + 1) = d by omega]
  exact h
theorem itemGo_end {e : ByteArray} {m k : Nat} {n R : Int} (h : itemGo e (m - k) k n = R) (hk : ¬ k < m) : n = R := by
  rw [show m - k = 0 by omega] at h
  exact h
theorem stretch_at {p : Nat → Bool} : ∀ {m k j : Nat}, k ≤ j → j < stretch p m k → p j = true
  | 0, k, j, h1, h2 => by simp [stretch] at h2; omega
  | m + 1, k, j, h1, h2 => by
    unfold stretch at h2
    by_cases hk : p k = true
    · rw [if_pos hk] at h2
      by_cases e : j = k
      · rw [e]; exact hk
      · exact stretch_at (by omega) h2
    · rw [if_neg hk] at h2; omega
theorem isDigit_at (s : ByteArray) (a k : Nat) (hk : k < itemLen s a) (hs : a + itemLen s a ≤ s.size) : 48 ≤ bt (s.extract a (a + itemLen s a)) k ∧ bt (s.extract a (a + itemLen s a)) k ≤ 57 := by
  rw [Pure.bt_ext s a (a + itemLen s a) k hs (by omega)]
  have h := stretch_at (p := fun i => isDigit (bt s i)) (m := s.size - a) (k := a) (j := a + k) (by omega) (by unfold itemLen far at hk; omega)
  simp only [isDigit, Bool.and_eq_true, decide_eq_true_eq] at h
  exact h
theorem bt_nat (s : ByteArray) (i : Nat) (h : i < s.size) : ((s[i]'h).toNat : Int) = bt s (i : Int) := by simpa using bt_at s (i : Int) (by simpa using h)
theorem item_conv {w W : World} {cs : Array Value} {s : ByteArray} (h : ItemM w cs W) : ItemM w cs (Lib.bytesWorld W 5 s) ∧ ∀ j, j < s.size → (Lib.bytesWorld W 5 s).cell? ⟨W.heap.size, j, none⟩ = some (.int .u8 (bt s j)) :=
  ⟨⟨(Lib.bytesWorld_at_old W 5 s _ (blk_lt h.1)).trans h.1, (Lib.bytesWorld_at_old W 5 s _ (blk_lt h.2.1)).trans h.2.1, below_bytes h.2.2 5 s⟩, bytes_cells W 5 s _ rfl⟩
set_option maxHeartbeats 2000000 in
set_option maxRecDepth 100000 in
theorem item_none (a0 : ByteArray) (a1 : Int) (s : ByteArray) (w : World) (hx : mdmark_ahead.f a0 a1 = some (s, false)) :
    Calls Tryd.prog 23 #[.string a0, .int .i64 a1] w fun e w' => e = .returned (.tuple #[.agg #[.int .u8 0, .int .i64 0, .int .i64 0, .int .i64 0, .int .i64 0, .int .i64 0], .bool false]) ∧ Below w.heap.size w w' := by
  have c1 := Lib.hid (fun W => mdmark_ahead.calls a0 a1 s false W hx)
  have hu := Tryd.underlying23
  go_enter Tryd.func23, Tryd.ntmps23
  go_wp2_with (go_at_call 26; refine (c1.out _).mono ?_; rintro e W1 ⟨rfl, hd⟩; obtain ⟨k1, z1, b1⟩ := rule_blk hd; clear hd; have K1 := Lib.hid k1; have B1 := Lib.hid b1; have C0 := blk_cell k1 0; have C1 := blk_cell k1 1; have C2 := blk_cell k1 2; have C3 := blk_cell k1 3; have C4 := blk_cell k1 4; have C5 := blk_cell k1 5; have F0 := blk_frozen k1 0; have F1 := blk_frozen k1 1; have F2 := blk_frozen k1 2; have F3 := blk_frozen k1 3; have F4 := blk_frozen k1 4; have F5 := blk_frozen k1 5; clear k1 b1)
  refine bodyPost_ret (results_ct rfl _ _ (w.heap.size) 23 #[.int .u8 0, .int .i64 0, .int .i64 0, .int .i64 0, .int .i64 0, .int .i64 0] (0, 0) _ rfl ?hk Tryd.underlying23 rfl (by kernel_rfl)) rfl ⟨rfl, ?_⟩
  case hk =>
    refine blk_put (cs := #[.int .u8 0, .int .i64 0, .int .i64 0, .int .i64 0, .int .i64 0, .int .i64 0]) ?_ 5 _ rfl
    refine blk_put (cs := #[.int .u8 0, .int .i64 0, .int .i64 0, .int .i64 0, .int .i64 0, .int .i64 0]) ?_ 4 _ rfl
    refine blk_put (cs := #[.int .u8 0, .int .i64 0, .int .i64 0, .int .i64 0, .int .i64 0, .int .i64 0]) ?_ 3 _ rfl
    refine blk_put (cs := #[.int .u8 0, .int .i64 0, .int .i64 0, .int .i64 0, .int .i64 0, .int .i64 0]) ?_ 2 _ rfl
    refine blk_put (cs := #[.int .u8 0, .int .i64 0, .int .i64 0, .int .i64 0, .int .i64 0, .int .i64 0]) ?_ 1 _ rfl
    exact blk_put (cs := #[.int .u8 0, .int .i64 0, .int .i64 0, .int .i64 0, .int .i64 0, .int .i64 0]) K1.out 0 _ rfl
  · with_reducible repeat (first | exact B1.out | apply below_alloc | apply pw_below_drewN | apply below_drew1 | refine below_set ?_ (Nat.le_refl _))
set_option maxHeartbeats 2000000 in
set_option maxRecDepth 100000 in
theorem item_sign_no (a0 : ByteArray) (a : Nat) (s : ByteArray) (c : Int) (w : World) (hx : mdmark_ahead.f a0 a = some (s, true)) (hlt : a < s.size) (hs : s.size ≤ 140737488355328) (hcc : bt s a = c) (hc : 0 ≤ Lib.indexByte [45, 43, 42] c.toNat.toUInt8) (hp : mdmark_parted.f s ((a : Int) + 1) = some false) :
    Calls Tryd.prog 23 #[.string a0, .int .i64 a] w fun e w' => e = .returned (.tuple #[.agg #[.int .u8 0, .int .i64 0, .int .i64 0, .int .i64 0, .int .i64 0, .int .i64 0], .bool false]) ∧ Below w.heap.size w w' := by
  have c1 := Lib.hid (fun W => mdmark_ahead.calls a0 a s true W hx)
  have c5 := Lib.hid (fun W => strings_IndexByte.calls ⟨#[45, 43, 42]⟩ c _ W rfl)
  change Hid (∀ W, Calls Tryd.prog 40 _ W fun e w' => e = .returned (.int .i64 (Lib.indexByte [45, 43, 42] c.toNat.toUInt8)) ∧ Drawn0 W w') at c5
  have hu := Tryd.underlying23
  have E : ((s[a]'hlt).toNat : Int) = c := by rw [← hcc]; simpa using bt_at s a (by omega)
  have hi' : decide (Lib.indexByte [45, 43, 42] c.toNat.toUInt8 < 0) = false := decide_eq_false (by omega)
  generalize Lib.indexByte [45, 43, 42] c.toNat.toUInt8 = ix at c5 hi'
  have c7 := Lib.hid (fun W => mdmark_parted.calls s ((a : Int) + 1) _ W hp)
  clear hc hp
  go_enter Tryd.func23, Tryd.ntmps23
  go_wp2_with (first | (go_at_call 26; refine (c1.out _).mono ?_; rintro e W1 ⟨rfl, hd⟩; obtain ⟨k1, z1, b1⟩ := rule_blk hd; clear hd; have hI := item_two (ds := #[.int .u8 c, .int .i64 0, .int .i64 ((a : Int) + 1), .int .i64 0, .int .i64 0, .int .i64 0]) k1 z1 b1; have HI : Hid (ItemM w #[.int .u8 c, .int .i64 0, .int .i64 ((a : Int) + 1), .int .i64 0, .int .i64 0, .int .i64 0] _) := Lib.hid hI; clear hI; have hI := HI.out; have KM := Lib.hid hI.1; have KR := Lib.hid hI.2.1; have BW := Lib.hid hI.2.2; have C0 := blk_cell hI.1 0; have C1 := blk_cell hI.1 1; have C2 := blk_cell hI.1 2; have C3 := blk_cell hI.1 3; have C4 := blk_cell hI.1 4; have C5 := blk_cell hI.1 5; have F0 := blk_frozen hI.1 0; have F1 := blk_frozen hI.1 1; have F2 := blk_frozen hI.1 2; have F3 := blk_frozen hI.1 3; have F4 := blk_frozen hI.1 4; have F5 := blk_frozen hI.1 5; have R0 := blk_cell hI.2.1 0; have R1 := blk_cell hI.2.1 1; have R2 := blk_cell hI.2.1 2; have R3 := blk_cell hI.2.1 3; have R4 := blk_cell hI.2.1 4; have R5 := blk_cell hI.2.1 5; have G0 := blk_frozen hI.2.1 0; have G1 := blk_frozen hI.2.1 1; have G2 := blk_frozen hI.2.1 2; have G3 := blk_frozen hI.2.1 3; have G4 := blk_frozen hI.2.1 4; have G5 := blk_frozen hI.2.1 5; clear k1 b1 hI) | (go_at_call 40; refine (c5.out _).mono ?_; rintro e W2 ⟨rfl, hd2⟩; clear C0 C1 C2 C3 C4 C5 F0 F1 F2 F3 F4 F5 R0 R1 R2 R3 R4 R5 G0 G1 G2 G3 G4 G5 KM KR BW; have hI := HI.out.drawn hd2; clear hd2 HI; have HI := Lib.hid hI; have KM := Lib.hid hI.1; have KR := Lib.hid hI.2.1; have BW := Lib.hid hI.2.2; have C0 := blk_cell hI.1 0; have C1 := blk_cell hI.1 1; have C2 := blk_cell hI.1 2; have C3 := blk_cell hI.1 3; have C4 := blk_cell hI.1 4; have C5 := blk_cell hI.1 5; have F0 := blk_frozen hI.1 0; have F1 := blk_frozen hI.1 1; have F2 := blk_frozen hI.1 2; have F3 := blk_frozen hI.1 3; have F4 := blk_frozen hI.1 4; have F5 := blk_frozen hI.1 5; have R0 := blk_cell hI.2.1 0; have R1 := blk_cell hI.2.1 1; have R2 := blk_cell hI.2.1 2; have R3 := blk_cell hI.2.1 3; have R4 := blk_cell hI.2.1 4; have R5 := blk_cell hI.2.1 5; have G0 := blk_frozen hI.2.1 0; have G1 := blk_frozen hI.2.1 1; have G2 := blk_frozen hI.2.1 2; have G3 := blk_frozen hI.2.1 3; have G4 := blk_frozen hI.2.1 4; have G5 := blk_frozen hI.2.1 5; clear hI) | (go_at_call 29; refine (c7.out _).mono ?_; rintro e W5 ⟨rfl, hd5⟩; clear C0 C1 C2 C3 C4 C5 F0 F1 F2 F3 F4 F5 R0 R1 R2 R3 R4 R5 G0 G1 G2 G3 G4 G5 KM KR BW; have hI := HI.out.drawn hd5; clear hd5 HI; have HI := Lib.hid hI; have KM := Lib.hid hI.1; have KR := Lib.hid hI.2.1; have BW := Lib.hid hI.2.2; have C0 := blk_cell hI.1 0; have C1 := blk_cell hI.1 1; have C2 := blk_cell hI.1 2; have C3 := blk_cell hI.1 3; have C4 := blk_cell hI.1 4; have C5 := blk_cell hI.1 5; have F0 := blk_frozen hI.1 0; have F1 := blk_frozen hI.1 1; have F2 := blk_frozen hI.1 2; have F3 := blk_frozen hI.1 3; have F4 := blk_frozen hI.1 4; have F5 := blk_frozen hI.1 5; have R0 := blk_cell hI.2.1 0; have R1 := blk_cell hI.2.1 1; have R2 := blk_cell hI.2.1 2; have R3 := blk_cell hI.2.1 3; have R4 := blk_cell hI.2.1 4; have R5 := blk_cell hI.2.1 5; have G0 := blk_frozen hI.2.1 0; have G1 := blk_frozen hI.2.1 1; have G2 := blk_frozen hI.2.1 2; have G3 := blk_frozen hI.2.1 3; have G4 := blk_frozen hI.2.1 4; have G5 := blk_frozen hI.2.1 5; clear hI))
  refine bodyPost_ret (results_ct rfl _ _ (w.heap.size) 23 #[.int .u8 0, .int .i64 0, .int .i64 0, .int .i64 0, .int .i64 0, .int .i64 0] (0, 0) _ rfl ?hk Tryd.underlying23 rfl (by kernel_rfl)) rfl ⟨rfl, ?_⟩
  case hk => exact rule_puts KR.out ..
  · with_reducible repeat (first | exact BW.out | apply below_alloc | apply pw_below_drewN | apply below_drew1 | refine below_set ?_ (Nat.le_refl _) | refine below_set ?_ (show w.heap.size ≤ w.heap.size + 1 by omega))
set_option maxHeartbeats 2000000 in
set_option maxRecDepth 100000 in
theorem item_sign_yes (a0 : ByteArray) (a : Nat) (s : ByteArray) (c : Int) (l : Int) (w : World) (hx : mdmark_ahead.f a0 a = some (s, true)) (hlt : a < s.size) (hs : s.size ≤ 140737488355328) (hcc : bt s a = c) (hc : 0 ≤ Lib.indexByte [45, 43, 42] c.toNat.toUInt8) (hp : mdmark_parted.f s ((a : Int) + 1) = some true) (hl : mdmark_last.f s ((a : Int) + 1) = some l) :
    Calls Tryd.prog 23 #[.string a0, .int .i64 a] w fun e w' => e = .returned (.tuple #[.agg #[.int .u8 (c), .int .i64 0, .int .i64 ((a : Int) + 1), .int .i64 0, .int .i64 0, .int .i64 (l)], .bool true]) ∧ Below w.heap.size w w' := by
  have c1 := Lib.hid (fun W => mdmark_ahead.calls a0 a s true W hx)
  have c5 := Lib.hid (fun W => strings_IndexByte.calls ⟨#[45, 43, 42]⟩ c _ W rfl)
  change Hid (∀ W, Calls Tryd.prog 40 _ W fun e w' => e = .returned (.int .i64 (Lib.indexByte [45, 43, 42] c.toNat.toUInt8)) ∧ Drawn0 W w') at c5
  have hu := Tryd.underlying23
  have E : ((s[a]'hlt).toNat : Int) = c := by rw [← hcc]; simpa using bt_at s a (by omega)
  have hi' : decide (Lib.indexByte [45, 43, 42] c.toNat.toUInt8 < 0) = false := decide_eq_false (by omega)
  generalize Lib.indexByte [45, 43, 42] c.toNat.toUInt8 = ix at c5 hi'
  have c7 := Lib.hid (fun W => mdmark_parted.calls s ((a : Int) + 1) _ W hp)
  have c8 := Lib.hid (fun W => mdmark_last.calls s ((a : Int) + 1) _ W hl)
  clear hl
  clear hc hp
  go_enter Tryd.func23, Tryd.ntmps23
  go_wp2_with (first | (go_at_call 26; refine (c1.out _).mono ?_; rintro e W1 ⟨rfl, hd⟩; obtain ⟨k1, z1, b1⟩ := rule_blk hd; clear hd; have hI := item_two (ds := #[.int .u8 c, .int .i64 0, .int .i64 ((a : Int) + 1), .int .i64 0, .int .i64 0, .int .i64 0]) k1 z1 b1; have HI : Hid (ItemM w #[.int .u8 c, .int .i64 0, .int .i64 ((a : Int) + 1), .int .i64 0, .int .i64 0, .int .i64 0] _) := Lib.hid hI; clear hI; have hI := HI.out; have KM := Lib.hid hI.1; have KR := Lib.hid hI.2.1; have BW := Lib.hid hI.2.2; have C0 := blk_cell hI.1 0; have C1 := blk_cell hI.1 1; have C2 := blk_cell hI.1 2; have C3 := blk_cell hI.1 3; have C4 := blk_cell hI.1 4; have C5 := blk_cell hI.1 5; have F0 := blk_frozen hI.1 0; have F1 := blk_frozen hI.1 1; have F2 := blk_frozen hI.1 2; have F3 := blk_frozen hI.1 3; have F4 := blk_frozen hI.1 4; have F5 := blk_frozen hI.1 5; have R0 := blk_cell hI.2.1 0; have R1 := blk_cell hI.2.1 1; have R2 := blk_cell hI.2.1 2; have R3 := blk_cell hI.2.1 3; have R4 := blk_cell hI.2.1 4; have R5 := blk_cell hI.2.1 5; have G0 := blk_frozen hI.2.1 0; have G1 := blk_frozen hI.2.1 1; have G2 := blk_frozen hI.2.1 2; have G3 := blk_frozen hI.2.1 3; have G4 := blk_frozen hI.2.1 4; have G5 := blk_frozen hI.2.1 5; clear k1 b1 hI) | (go_at_call 40; refine (c5.out _).mono ?_; rintro e W2 ⟨rfl, hd2⟩; clear C0 C1 C2 C3 C4 C5 F0 F1 F2 F3 F4 F5 R0 R1 R2 R3 R4 R5 G0 G1 G2 G3 G4 G5 KM KR BW; have hI := HI.out.drawn hd2; clear hd2 HI; have HI := Lib.hid hI; have KM := Lib.hid hI.1; have KR := Lib.hid hI.2.1; have BW := Lib.hid hI.2.2; have C0 := blk_cell hI.1 0; have C1 := blk_cell hI.1 1; have C2 := blk_cell hI.1 2; have C3 := blk_cell hI.1 3; have C4 := blk_cell hI.1 4; have C5 := blk_cell hI.1 5; have F0 := blk_frozen hI.1 0; have F1 := blk_frozen hI.1 1; have F2 := blk_frozen hI.1 2; have F3 := blk_frozen hI.1 3; have F4 := blk_frozen hI.1 4; have F5 := blk_frozen hI.1 5; have R0 := blk_cell hI.2.1 0; have R1 := blk_cell hI.2.1 1; have R2 := blk_cell hI.2.1 2; have R3 := blk_cell hI.2.1 3; have R4 := blk_cell hI.2.1 4; have R5 := blk_cell hI.2.1 5; have G0 := blk_frozen hI.2.1 0; have G1 := blk_frozen hI.2.1 1; have G2 := blk_frozen hI.2.1 2; have G3 := blk_frozen hI.2.1 3; have G4 := blk_frozen hI.2.1 4; have G5 := blk_frozen hI.2.1 5; clear hI) | (go_at_call 29; refine (c7.out _).mono ?_; rintro e W5 ⟨rfl, hd5⟩; clear C0 C1 C2 C3 C4 C5 F0 F1 F2 F3 F4 F5 R0 R1 R2 R3 R4 R5 G0 G1 G2 G3 G4 G5 KM KR BW; have hI := HI.out.drawn hd5; clear hd5 HI; have HI := Lib.hid hI; have KM := Lib.hid hI.1; have KR := Lib.hid hI.2.1; have BW := Lib.hid hI.2.2; have C0 := blk_cell hI.1 0; have C1 := blk_cell hI.1 1; have C2 := blk_cell hI.1 2; have C3 := blk_cell hI.1 3; have C4 := blk_cell hI.1 4; have C5 := blk_cell hI.1 5; have F0 := blk_frozen hI.1 0; have F1 := blk_frozen hI.1 1; have F2 := blk_frozen hI.1 2; have F3 := blk_frozen hI.1 3; have F4 := blk_frozen hI.1 4; have F5 := blk_frozen hI.1 5; have R0 := blk_cell hI.2.1 0; have R1 := blk_cell hI.2.1 1; have R2 := blk_cell hI.2.1 2; have R3 := blk_cell hI.2.1 3; have R4 := blk_cell hI.2.1 4; have R5 := blk_cell hI.2.1 5; have G0 := blk_frozen hI.2.1 0; have G1 := blk_frozen hI.2.1 1; have G2 := blk_frozen hI.2.1 2; have G3 := blk_frozen hI.2.1 3; have G4 := blk_frozen hI.2.1 4; have G5 := blk_frozen hI.2.1 5; clear hI) | (go_at_call 30; refine (c8.out _).mono ?_; rintro e W6 ⟨rfl, hb6⟩; clear C0 C1 C2 C3 C4 C5 F0 F1 F2 F3 F4 F5 R0 R1 R2 R3 R4 R5 G0 G1 G2 G3 G4 G5 KM KR BW; have hI := HI.out.below hb6; clear hb6 HI; have HI := Lib.hid hI; have KM := Lib.hid hI.1; have KR := Lib.hid hI.2.1; have BW := Lib.hid hI.2.2; have C0 := blk_cell hI.1 0; have C1 := blk_cell hI.1 1; have C2 := blk_cell hI.1 2; have C3 := blk_cell hI.1 3; have C4 := blk_cell hI.1 4; have C5 := blk_cell hI.1 5; have F0 := blk_frozen hI.1 0; have F1 := blk_frozen hI.1 1; have F2 := blk_frozen hI.1 2; have F3 := blk_frozen hI.1 3; have F4 := blk_frozen hI.1 4; have F5 := blk_frozen hI.1 5; have R0 := blk_cell hI.2.1 0; have R1 := blk_cell hI.2.1 1; have R2 := blk_cell hI.2.1 2; have R3 := blk_cell hI.2.1 3; have R4 := blk_cell hI.2.1 4; have R5 := blk_cell hI.2.1 5; have G0 := blk_frozen hI.2.1 0; have G1 := blk_frozen hI.2.1 1; have G2 := blk_frozen hI.2.1 2; have G3 := blk_frozen hI.2.1 3; have G4 := blk_frozen hI.2.1 4; have G5 := blk_frozen hI.2.1 5; clear hI))
  refine bodyPost_ret (results_ct rfl _ _ (w.heap.size) 23 #[.int .u8 (c), .int .i64 0, .int .i64 (((a : Int) + 1)), .int .i64 0, .int .i64 0, .int .i64 (l)] (0, 0) _ rfl ?hk Tryd.underlying23 rfl (by kernel_rfl)) rfl ⟨rfl, ?_⟩
  case hk => exact rule_puts (blk_far KR.out (show w.heap.size ≠ w.heap.size + 1 by omega) _) ..
  · with_reducible repeat (first | exact BW.out | apply below_alloc | apply pw_below_drewN | apply below_drew1 | refine below_set ?_ (Nat.le_refl _) | refine below_set ?_ (show w.heap.size ≤ w.heap.size + 1 by omega))
set_option maxHeartbeats 2000000 in
set_option maxRecDepth 100000 in
theorem item_few (a0 : ByteArray) (a : Nat) (s : ByteArray) (c : Int) (n : Nat) (w : World) (hx : mdmark_ahead.f a0 a = some (s, true)) (hlt : a < s.size) (hs : s.size ≤ 140737488355328) (hcc : bt s a = c) (hc : ¬ 0 ≤ Lib.indexByte [45, 43, 42] c.toNat.toUInt8) (hnn : itemLen s a = n) (hk : n < 1) :
    Calls Tryd.prog 23 #[.string a0, .int .i64 a] w fun e w' => e = .returned (.tuple #[.agg #[.int .u8 0, .int .i64 0, .int .i64 0, .int .i64 0, .int .i64 0, .int .i64 0], .bool false]) ∧ Below w.heap.size w w' := by
  have c1 := Lib.hid (fun W => mdmark_ahead.calls a0 a s true W hx)
  have c5 := Lib.hid (fun W => strings_IndexByte.calls ⟨#[45, 43, 42]⟩ c _ W rfl)
  change Hid (∀ W, Calls Tryd.prog 40 _ W fun e w' => e = .returned (.int .i64 (Lib.indexByte [45, 43, 42] c.toNat.toUInt8)) ∧ Drawn0 W w') at c5
  have hu := Tryd.underlying23
  have E : ((s[a]'hlt).toNat : Int) = c := by rw [← hcc]; simpa using bt_at s a (by omega)
  have hi' : decide (Lib.indexByte [45, 43, 42] c.toNat.toUInt8 < 0) = true := decide_eq_true (by omega)
  generalize Lib.indexByte [45, 43, 42] c.toNat.toUInt8 = ix at c5 hi'
  have c4 : Hid (∀ W, Calls Tryd.prog 27 _ W fun e w' => e = .returned (.int .i64 ((itemLen s a : Nat) : Int)) ∧ Drawn0 W w') := Lib.hid (fun W => row_digit s a W hs (by omega))
  rw [hnn] at c4
  have han : a + n ≤ s.size := by
    have h1 := (stretch_le (p := fun i => isDigit (bt s i)) (m := s.size - a) (k := a))
    unfold itemLen far at hnn
    omega
  clear hc
  have d1 : decide ((n : Int) < 1) = true := decide_eq_true (by omega)
  clear hnn
  go_enter Tryd.func23, Tryd.ntmps23
  go_wp2_with (first | (go_at_call 26; refine (c1.out _).mono ?_; rintro e W1 ⟨rfl, hd⟩; obtain ⟨k1, z1, b1⟩ := rule_blk hd; clear hd; have hI := item_two (ds := #[.int .u8 c, .int .i64 0, .int .i64 ((a : Int) + 1), .int .i64 0, .int .i64 0, .int .i64 0]) k1 z1 b1; have HI : Hid (ItemM w #[.int .u8 c, .int .i64 0, .int .i64 ((a : Int) + 1), .int .i64 0, .int .i64 0, .int .i64 0] _) := Lib.hid hI; clear hI; have hI := HI.out; have KM := Lib.hid hI.1; have KR := Lib.hid hI.2.1; have BW := Lib.hid hI.2.2; have C0 := blk_cell hI.1 0; have C1 := blk_cell hI.1 1; have C2 := blk_cell hI.1 2; have C3 := blk_cell hI.1 3; have C4 := blk_cell hI.1 4; have C5 := blk_cell hI.1 5; have F0 := blk_frozen hI.1 0; have F1 := blk_frozen hI.1 1; have F2 := blk_frozen hI.1 2; have F3 := blk_frozen hI.1 3; have F4 := blk_frozen hI.1 4; have F5 := blk_frozen hI.1 5; have R0 := blk_cell hI.2.1 0; have R1 := blk_cell hI.2.1 1; have R2 := blk_cell hI.2.1 2; have R3 := blk_cell hI.2.1 3; have R4 := blk_cell hI.2.1 4; have R5 := blk_cell hI.2.1 5; have G0 := blk_frozen hI.2.1 0; have G1 := blk_frozen hI.2.1 1; have G2 := blk_frozen hI.2.1 2; have G3 := blk_frozen hI.2.1 3; have G4 := blk_frozen hI.2.1 4; have G5 := blk_frozen hI.2.1 5; clear k1 b1 hI) | (go_at_call 40; refine (c5.out _).mono ?_; rintro e W2 ⟨rfl, hd2⟩; clear C0 C1 C2 C3 C4 C5 F0 F1 F2 F3 F4 F5 R0 R1 R2 R3 R4 R5 G0 G1 G2 G3 G4 G5 KM KR BW; have hI := HI.out.drawn hd2; clear hd2 HI; have HI := Lib.hid hI; have KM := Lib.hid hI.1; have KR := Lib.hid hI.2.1; have BW := Lib.hid hI.2.2; have C0 := blk_cell hI.1 0; have C1 := blk_cell hI.1 1; have C2 := blk_cell hI.1 2; have C3 := blk_cell hI.1 3; have C4 := blk_cell hI.1 4; have C5 := blk_cell hI.1 5; have F0 := blk_frozen hI.1 0; have F1 := blk_frozen hI.1 1; have F2 := blk_frozen hI.1 2; have F3 := blk_frozen hI.1 3; have F4 := blk_frozen hI.1 4; have F5 := blk_frozen hI.1 5; have R0 := blk_cell hI.2.1 0; have R1 := blk_cell hI.2.1 1; have R2 := blk_cell hI.2.1 2; have R3 := blk_cell hI.2.1 3; have R4 := blk_cell hI.2.1 4; have R5 := blk_cell hI.2.1 5; have G0 := blk_frozen hI.2.1 0; have G1 := blk_frozen hI.2.1 1; have G2 := blk_frozen hI.2.1 2; have G3 := blk_frozen hI.2.1 3; have G4 := blk_frozen hI.2.1 4; have G5 := blk_frozen hI.2.1 5; clear hI) | (go_at_call 27; refine (c4.out _).mono ?_; rintro e W3 ⟨rfl, hd3⟩; clear C0 C1 C2 C3 C4 C5 F0 F1 F2 F3 F4 F5 R0 R1 R2 R3 R4 R5 G0 G1 G2 G3 G4 G5 KM KR BW; have hI := HI.out.drawn hd3; clear hd3 HI; have HI := Lib.hid hI; have KM := Lib.hid hI.1; have KR := Lib.hid hI.2.1; have BW := Lib.hid hI.2.2; have C0 := blk_cell hI.1 0; have C1 := blk_cell hI.1 1; have C2 := blk_cell hI.1 2; have C3 := blk_cell hI.1 3; have C4 := blk_cell hI.1 4; have C5 := blk_cell hI.1 5; have F0 := blk_frozen hI.1 0; have F1 := blk_frozen hI.1 1; have F2 := blk_frozen hI.1 2; have F3 := blk_frozen hI.1 3; have F4 := blk_frozen hI.1 4; have F5 := blk_frozen hI.1 5; have R0 := blk_cell hI.2.1 0; have R1 := blk_cell hI.2.1 1; have R2 := blk_cell hI.2.1 2; have R3 := blk_cell hI.2.1 3; have R4 := blk_cell hI.2.1 4; have R5 := blk_cell hI.2.1 5; have G0 := blk_frozen hI.2.1 0; have G1 := blk_frozen hI.2.1 1; have G2 := blk_frozen hI.2.1 2; have G3 := blk_frozen hI.2.1 3; have G4 := blk_frozen hI.2.1 4; have G5 := blk_frozen hI.2.1 5; clear hI))
  refine bodyPost_ret (results_ct rfl _ _ (w.heap.size) 23 #[.int .u8 0, .int .i64 0, .int .i64 0, .int .i64 0, .int .i64 0, .int .i64 0] (0, 0) _ rfl ?hk Tryd.underlying23 rfl (by kernel_rfl)) rfl ⟨rfl, ?_⟩
  case hk => exact rule_puts KR.out ..
  · with_reducible repeat (first | exact BW.out | apply below_alloc | apply pw_below_drewN | apply below_drew1 | refine below_set ?_ (Nat.le_refl _) | refine below_set ?_ (show w.heap.size ≤ w.heap.size + 1 by omega))
set_option maxHeartbeats 2000000 in
set_option maxRecDepth 100000 in
theorem item_many (a0 : ByteArray) (a : Nat) (s : ByteArray) (c : Int) (n : Nat) (w : World) (hx : mdmark_ahead.f a0 a = some (s, true)) (hlt : a < s.size) (hs : s.size ≤ 140737488355328) (hcc : bt s a = c) (hc : ¬ 0 ≤ Lib.indexByte [45, 43, 42] c.toNat.toUInt8) (hnn : itemLen s a = n) (hk : 9 < n) :
    Calls Tryd.prog 23 #[.string a0, .int .i64 a] w fun e w' => e = .returned (.tuple #[.agg #[.int .u8 0, .int .i64 0, .int .i64 0, .int .i64 0, .int .i64 0, .int .i64 0], .bool false]) ∧ Below w.heap.size w w' := by
  have c1 := Lib.hid (fun W => mdmark_ahead.calls a0 a s true W hx)
  have c5 := Lib.hid (fun W => strings_IndexByte.calls ⟨#[45, 43, 42]⟩ c _ W rfl)
  change Hid (∀ W, Calls Tryd.prog 40 _ W fun e w' => e = .returned (.int .i64 (Lib.indexByte [45, 43, 42] c.toNat.toUInt8)) ∧ Drawn0 W w') at c5
  have hu := Tryd.underlying23
  have E : ((s[a]'hlt).toNat : Int) = c := by rw [← hcc]; simpa using bt_at s a (by omega)
  have hi' : decide (Lib.indexByte [45, 43, 42] c.toNat.toUInt8 < 0) = true := decide_eq_true (by omega)
  generalize Lib.indexByte [45, 43, 42] c.toNat.toUInt8 = ix at c5 hi'
  have c4 : Hid (∀ W, Calls Tryd.prog 27 _ W fun e w' => e = .returned (.int .i64 ((itemLen s a : Nat) : Int)) ∧ Drawn0 W w') := Lib.hid (fun W => row_digit s a W hs (by omega))
  rw [hnn] at c4
  have han : a + n ≤ s.size := by
    have h1 := (stretch_le (p := fun i => isDigit (bt s i)) (m := s.size - a) (k := a))
    unfold itemLen far at hnn
    omega
  clear hc
  have d1 : decide ((n : Int) < 1) = false := decide_eq_false (by omega)
  have d2 : decide (9 < (n : Int)) = true := decide_eq_true (by omega)
  clear hnn
  go_enter Tryd.func23, Tryd.ntmps23
  go_wp2_with (first | (go_at_call 26; refine (c1.out _).mono ?_; rintro e W1 ⟨rfl, hd⟩; obtain ⟨k1, z1, b1⟩ := rule_blk hd; clear hd; have hI := item_two (ds := #[.int .u8 c, .int .i64 0, .int .i64 ((a : Int) + 1), .int .i64 0, .int .i64 0, .int .i64 0]) k1 z1 b1; have HI : Hid (ItemM w #[.int .u8 c, .int .i64 0, .int .i64 ((a : Int) + 1), .int .i64 0, .int .i64 0, .int .i64 0] _) := Lib.hid hI; clear hI; have hI := HI.out; have KM := Lib.hid hI.1; have KR := Lib.hid hI.2.1; have BW := Lib.hid hI.2.2; have C0 := blk_cell hI.1 0; have C1 := blk_cell hI.1 1; have C2 := blk_cell hI.1 2; have C3 := blk_cell hI.1 3; have C4 := blk_cell hI.1 4; have C5 := blk_cell hI.1 5; have F0 := blk_frozen hI.1 0; have F1 := blk_frozen hI.1 1; have F2 := blk_frozen hI.1 2; have F3 := blk_frozen hI.1 3; have F4 := blk_frozen hI.1 4; have F5 := blk_frozen hI.1 5; have R0 := blk_cell hI.2.1 0; have R1 := blk_cell hI.2.1 1; have R2 := blk_cell hI.2.1 2; have R3 := blk_cell hI.2.1 3; have R4 := blk_cell hI.2.1 4; have R5 := blk_cell hI.2.1 5; have G0 := blk_frozen hI.2.1 0; have G1 := blk_frozen hI.2.1 1; have G2 := blk_frozen hI.2.1 2; have G3 := blk_frozen hI.2.1 3; have G4 := blk_frozen hI.2.1 4; have G5 := blk_frozen hI.2.1 5; clear k1 b1 hI) | (go_at_call 40; refine (c5.out _).mono ?_; rintro e W2 ⟨rfl, hd2⟩; clear C0 C1 C2 C3 C4 C5 F0 F1 F2 F3 F4 F5 R0 R1 R2 R3 R4 R5 G0 G1 G2 G3 G4 G5 KM KR BW; have hI := HI.out.drawn hd2; clear hd2 HI; have HI := Lib.hid hI; have KM := Lib.hid hI.1; have KR := Lib.hid hI.2.1; have BW := Lib.hid hI.2.2; have C0 := blk_cell hI.1 0; have C1 := blk_cell hI.1 1; have C2 := blk_cell hI.1 2; have C3 := blk_cell hI.1 3; have C4 := blk_cell hI.1 4; have C5 := blk_cell hI.1 5; have F0 := blk_frozen hI.1 0; have F1 := blk_frozen hI.1 1; have F2 := blk_frozen hI.1 2; have F3 := blk_frozen hI.1 3; have F4 := blk_frozen hI.1 4; have F5 := blk_frozen hI.1 5; have R0 := blk_cell hI.2.1 0; have R1 := blk_cell hI.2.1 1; have R2 := blk_cell hI.2.1 2; have R3 := blk_cell hI.2.1 3; have R4 := blk_cell hI.2.1 4; have R5 := blk_cell hI.2.1 5; have G0 := blk_frozen hI.2.1 0; have G1 := blk_frozen hI.2.1 1; have G2 := blk_frozen hI.2.1 2; have G3 := blk_frozen hI.2.1 3; have G4 := blk_frozen hI.2.1 4; have G5 := blk_frozen hI.2.1 5; clear hI) | (go_at_call 27; refine (c4.out _).mono ?_; rintro e W3 ⟨rfl, hd3⟩; clear C0 C1 C2 C3 C4 C5 F0 F1 F2 F3 F4 F5 R0 R1 R2 R3 R4 R5 G0 G1 G2 G3 G4 G5 KM KR BW; have hI := HI.out.drawn hd3; clear hd3 HI; have HI := Lib.hid hI; have KM := Lib.hid hI.1; have KR := Lib.hid hI.2.1; have BW := Lib.hid hI.2.2; have C0 := blk_cell hI.1 0; have C1 := blk_cell hI.1 1; have C2 := blk_cell hI.1 2; have C3 := blk_cell hI.1 3; have C4 := blk_cell hI.1 4; have C5 := blk_cell hI.1 5; have F0 := blk_frozen hI.1 0; have F1 := blk_frozen hI.1 1; have F2 := blk_frozen hI.1 2; have F3 := blk_frozen hI.1 3; have F4 := blk_frozen hI.1 4; have F5 := blk_frozen hI.1 5; have R0 := blk_cell hI.2.1 0; have R1 := blk_cell hI.2.1 1; have R2 := blk_cell hI.2.1 2; have R3 := blk_cell hI.2.1 3; have R4 := blk_cell hI.2.1 4; have R5 := blk_cell hI.2.1 5; have G0 := blk_frozen hI.2.1 0; have G1 := blk_frozen hI.2.1 1; have G2 := blk_frozen hI.2.1 2; have G3 := blk_frozen hI.2.1 3; have G4 := blk_frozen hI.2.1 4; have G5 := blk_frozen hI.2.1 5; clear hI))
  refine bodyPost_ret (results_ct rfl _ _ (w.heap.size) 23 #[.int .u8 0, .int .i64 0, .int .i64 0, .int .i64 0, .int .i64 0, .int .i64 0] (0, 0) _ rfl ?hk Tryd.underlying23 rfl (by kernel_rfl)) rfl ⟨rfl, ?_⟩
  case hk => exact rule_puts KR.out ..
  · with_reducible repeat (first | exact BW.out | apply below_alloc | apply pw_below_drewN | apply below_drew1 | refine below_set ?_ (Nat.le_refl _) | refine below_set ?_ (show w.heap.size ≤ w.heap.size + 1 by omega))
set_option maxHeartbeats 2000000 in
set_option maxRecDepth 100000 in
theorem item_end (a0 : ByteArray) (a : Nat) (s : ByteArray) (c : Int) (n : Nat) (w : World) (hx : mdmark_ahead.f a0 a = some (s, true)) (hlt : a < s.size) (hs : s.size ≤ 140737488355328) (hcc : bt s a = c) (hc : ¬ 0 ≤ Lib.indexByte [45, 43, 42] c.toNat.toUInt8) (hnn : itemLen s a = n) (h1 : 1 ≤ n) (h9 : n ≤ 9) (hk : a + n = s.size) :
    Calls Tryd.prog 23 #[.string a0, .int .i64 a] w fun e w' => e = .returned (.tuple #[.agg #[.int .u8 0, .int .i64 0, .int .i64 0, .int .i64 0, .int .i64 0, .int .i64 0], .bool false]) ∧ Below w.heap.size w w' := by
  have c1 := Lib.hid (fun W => mdmark_ahead.calls a0 a s true W hx)
  have c5 := Lib.hid (fun W => strings_IndexByte.calls ⟨#[45, 43, 42]⟩ c _ W rfl)
  change Hid (∀ W, Calls Tryd.prog 40 _ W fun e w' => e = .returned (.int .i64 (Lib.indexByte [45, 43, 42] c.toNat.toUInt8)) ∧ Drawn0 W w') at c5
  have hu := Tryd.underlying23
  have E : ((s[a]'hlt).toNat : Int) = c := by rw [← hcc]; simpa using bt_at s a (by omega)
  have hi' : decide (Lib.indexByte [45, 43, 42] c.toNat.toUInt8 < 0) = true := decide_eq_true (by omega)
  generalize Lib.indexByte [45, 43, 42] c.toNat.toUInt8 = ix at c5 hi'
  have c4 : Hid (∀ W, Calls Tryd.prog 27 _ W fun e w' => e = .returned (.int .i64 ((itemLen s a : Nat) : Int)) ∧ Drawn0 W w') := Lib.hid (fun W => row_digit s a W hs (by omega))
  rw [hnn] at c4
  have han : a + n ≤ s.size := by
    have h1 := (stretch_le (p := fun i => isDigit (bt s i)) (m := s.size - a) (k := a))
    unfold itemLen far at hnn
    omega
  clear hc
  have d1 : decide ((n : Int) < 1) = false := decide_eq_false (by omega)
  have d2 : decide (9 < (n : Int)) = false := decide_eq_false (by omega)
  have e4 : ((a : Int) + (n : Int) == (s.size : Int)) = true := beq_iff_eq.2 (by omega)
  clear hnn
  go_enter Tryd.func23, Tryd.ntmps23
  go_wp2_with (first | (go_at_call 26; refine (c1.out _).mono ?_; rintro e W1 ⟨rfl, hd⟩; obtain ⟨k1, z1, b1⟩ := rule_blk hd; clear hd; have hI := item_two (ds := #[.int .u8 c, .int .i64 0, .int .i64 ((a : Int) + 1), .int .i64 0, .int .i64 0, .int .i64 0]) k1 z1 b1; have HI : Hid (ItemM w #[.int .u8 c, .int .i64 0, .int .i64 ((a : Int) + 1), .int .i64 0, .int .i64 0, .int .i64 0] _) := Lib.hid hI; clear hI; have hI := HI.out; have KM := Lib.hid hI.1; have KR := Lib.hid hI.2.1; have BW := Lib.hid hI.2.2; have C0 := blk_cell hI.1 0; have C1 := blk_cell hI.1 1; have C2 := blk_cell hI.1 2; have C3 := blk_cell hI.1 3; have C4 := blk_cell hI.1 4; have C5 := blk_cell hI.1 5; have F0 := blk_frozen hI.1 0; have F1 := blk_frozen hI.1 1; have F2 := blk_frozen hI.1 2; have F3 := blk_frozen hI.1 3; have F4 := blk_frozen hI.1 4; have F5 := blk_frozen hI.1 5; have R0 := blk_cell hI.2.1 0; have R1 := blk_cell hI.2.1 1; have R2 := blk_cell hI.2.1 2; have R3 := blk_cell hI.2.1 3; have R4 := blk_cell hI.2.1 4; have R5 := blk_cell hI.2.1 5; have G0 := blk_frozen hI.2.1 0; have G1 := blk_frozen hI.2.1 1; have G2 := blk_frozen hI.2.1 2; have G3 := blk_frozen hI.2.1 3; have G4 := blk_frozen hI.2.1 4; have G5 := blk_frozen hI.2.1 5; clear k1 b1 hI) | (go_at_call 40; refine (c5.out _).mono ?_; rintro e W2 ⟨rfl, hd2⟩; clear C0 C1 C2 C3 C4 C5 F0 F1 F2 F3 F4 F5 R0 R1 R2 R3 R4 R5 G0 G1 G2 G3 G4 G5 KM KR BW; have hI := HI.out.drawn hd2; clear hd2 HI; have HI := Lib.hid hI; have KM := Lib.hid hI.1; have KR := Lib.hid hI.2.1; have BW := Lib.hid hI.2.2; have C0 := blk_cell hI.1 0; have C1 := blk_cell hI.1 1; have C2 := blk_cell hI.1 2; have C3 := blk_cell hI.1 3; have C4 := blk_cell hI.1 4; have C5 := blk_cell hI.1 5; have F0 := blk_frozen hI.1 0; have F1 := blk_frozen hI.1 1; have F2 := blk_frozen hI.1 2; have F3 := blk_frozen hI.1 3; have F4 := blk_frozen hI.1 4; have F5 := blk_frozen hI.1 5; have R0 := blk_cell hI.2.1 0; have R1 := blk_cell hI.2.1 1; have R2 := blk_cell hI.2.1 2; have R3 := blk_cell hI.2.1 3; have R4 := blk_cell hI.2.1 4; have R5 := blk_cell hI.2.1 5; have G0 := blk_frozen hI.2.1 0; have G1 := blk_frozen hI.2.1 1; have G2 := blk_frozen hI.2.1 2; have G3 := blk_frozen hI.2.1 3; have G4 := blk_frozen hI.2.1 4; have G5 := blk_frozen hI.2.1 5; clear hI) | (go_at_call 27; refine (c4.out _).mono ?_; rintro e W3 ⟨rfl, hd3⟩; clear C0 C1 C2 C3 C4 C5 F0 F1 F2 F3 F4 F5 R0 R1 R2 R3 R4 R5 G0 G1 G2 G3 G4 G5 KM KR BW; have hI := HI.out.drawn hd3; clear hd3 HI; have HI := Lib.hid hI; have KM := Lib.hid hI.1; have KR := Lib.hid hI.2.1; have BW := Lib.hid hI.2.2; have C0 := blk_cell hI.1 0; have C1 := blk_cell hI.1 1; have C2 := blk_cell hI.1 2; have C3 := blk_cell hI.1 3; have C4 := blk_cell hI.1 4; have C5 := blk_cell hI.1 5; have F0 := blk_frozen hI.1 0; have F1 := blk_frozen hI.1 1; have F2 := blk_frozen hI.1 2; have F3 := blk_frozen hI.1 3; have F4 := blk_frozen hI.1 4; have F5 := blk_frozen hI.1 5; have R0 := blk_cell hI.2.1 0; have R1 := blk_cell hI.2.1 1; have R2 := blk_cell hI.2.1 2; have R3 := blk_cell hI.2.1 3; have R4 := blk_cell hI.2.1 4; have R5 := blk_cell hI.2.1 5; have G0 := blk_frozen hI.2.1 0; have G1 := blk_frozen hI.2.1 1; have G2 := blk_frozen hI.2.1 2; have G3 := blk_frozen hI.2.1 3; have G4 := blk_frozen hI.2.1 4; have G5 := blk_frozen hI.2.1 5; clear hI))
  refine bodyPost_ret (results_ct rfl _ _ (w.heap.size) 23 #[.int .u8 0, .int .i64 0, .int .i64 0, .int .i64 0, .int .i64 0, .int .i64 0] (0, 0) _ rfl ?hk Tryd.underlying23 rfl (by kernel_rfl)) rfl ⟨rfl, ?_⟩
  case hk => exact rule_puts KR.out ..
  · with_reducible repeat (first | exact BW.out | apply below_alloc | apply pw_below_drewN | apply below_drew1 | refine below_set ?_ (Nat.le_refl _) | refine below_set ?_ (show w.heap.size ≤ w.heap.size + 1 by omega))
set_option maxHeartbeats 2000000 in
set_option maxRecDepth 100000 in
theorem item_other (a0 : ByteArray) (a : Nat) (s : ByteArray) (c : Int) (n : Nat) (w : World) (hx : mdmark_ahead.f a0 a = some (s, true)) (hlt : a < s.size) (hs : s.size ≤ 140737488355328) (hcc : bt s a = c) (hc : ¬ 0 ≤ Lib.indexByte [45, 43, 42] c.toNat.toUInt8) (hnn : itemLen s a = n) (h1 : 1 ≤ n) (h9 : n ≤ 9) (hk : a + n < s.size) (hd1 : bt s ((a + n : Nat) : Int) ≠ 46) (hd2 : bt s ((a + n : Nat) : Int) ≠ 41) :
    Calls Tryd.prog 23 #[.string a0, .int .i64 a] w fun e w' => e = .returned (.tuple #[.agg #[.int .u8 0, .int .i64 0, .int .i64 0, .int .i64 0, .int .i64 0, .int .i64 0], .bool false]) ∧ Below w.heap.size w w' := by
  have c1 := Lib.hid (fun W => mdmark_ahead.calls a0 a s true W hx)
  have c5 := Lib.hid (fun W => strings_IndexByte.calls ⟨#[45, 43, 42]⟩ c _ W rfl)
  change Hid (∀ W, Calls Tryd.prog 40 _ W fun e w' => e = .returned (.int .i64 (Lib.indexByte [45, 43, 42] c.toNat.toUInt8)) ∧ Drawn0 W w') at c5
  have hu := Tryd.underlying23
  have E : ((s[a]'hlt).toNat : Int) = c := by rw [← hcc]; simpa using bt_at s a (by omega)
  have hi' : decide (Lib.indexByte [45, 43, 42] c.toNat.toUInt8 < 0) = true := decide_eq_true (by omega)
  generalize Lib.indexByte [45, 43, 42] c.toNat.toUInt8 = ix at c5 hi'
  have c4 : Hid (∀ W, Calls Tryd.prog 27 _ W fun e w' => e = .returned (.int .i64 ((itemLen s a : Nat) : Int)) ∧ Drawn0 W w') := Lib.hid (fun W => row_digit s a W hs (by omega))
  rw [hnn] at c4
  have han : a + n ≤ s.size := by
    have h1 := (stretch_le (p := fun i => isDigit (bt s i)) (m := s.size - a) (k := a))
    unfold itemLen far at hnn
    omega
  clear hc
  have d1 : decide ((n : Int) < 1) = false := decide_eq_false (by omega)
  have d2 : decide (9 < (n : Int)) = false := decide_eq_false (by omega)
  have e4 : ((a : Int) + (n : Int) == (s.size : Int)) = false := beq_eq_false_iff_ne.2 (by omega)
  have E2 : ((s[a + n]'hk).toNat : Int) = bt s ((a + n : Nat) : Int) := bt_nat s (a + n) hk
  have e5 : (bt s ((a + n : Nat) : Int) != 46) = true := bne_iff_ne.2 hd1
  have e6 : (bt s ((a + n : Nat) : Int) != 41) = true := bne_iff_ne.2 hd2
  generalize bt s ((a + n : Nat) : Int) = d at E2 e5 e6
  clear hd1 hd2
  clear hnn
  go_enter Tryd.func23, Tryd.ntmps23
  go_wp2_with (first | (go_at_call 26; refine (c1.out _).mono ?_; rintro e W1 ⟨rfl, hd⟩; obtain ⟨k1, z1, b1⟩ := rule_blk hd; clear hd; have hI := item_two (ds := #[.int .u8 c, .int .i64 0, .int .i64 ((a : Int) + 1), .int .i64 0, .int .i64 0, .int .i64 0]) k1 z1 b1; have HI : Hid (ItemM w #[.int .u8 c, .int .i64 0, .int .i64 ((a : Int) + 1), .int .i64 0, .int .i64 0, .int .i64 0] _) := Lib.hid hI; clear hI; have hI := HI.out; have KM := Lib.hid hI.1; have KR := Lib.hid hI.2.1; have BW := Lib.hid hI.2.2; have C0 := blk_cell hI.1 0; have C1 := blk_cell hI.1 1; have C2 := blk_cell hI.1 2; have C3 := blk_cell hI.1 3; have C4 := blk_cell hI.1 4; have C5 := blk_cell hI.1 5; have F0 := blk_frozen hI.1 0; have F1 := blk_frozen hI.1 1; have F2 := blk_frozen hI.1 2; have F3 := blk_frozen hI.1 3; have F4 := blk_frozen hI.1 4; have F5 := blk_frozen hI.1 5; have R0 := blk_cell hI.2.1 0; have R1 := blk_cell hI.2.1 1; have R2 := blk_cell hI.2.1 2; have R3 := blk_cell hI.2.1 3; have R4 := blk_cell hI.2.1 4; have R5 := blk_cell hI.2.1 5; have G0 := blk_frozen hI.2.1 0; have G1 := blk_frozen hI.2.1 1; have G2 := blk_frozen hI.2.1 2; have G3 := blk_frozen hI.2.1 3; have G4 := blk_frozen hI.2.1 4; have G5 := blk_frozen hI.2.1 5; clear k1 b1 hI) | (go_at_call 40; refine (c5.out _).mono ?_; rintro e W2 ⟨rfl, hd2⟩; clear C0 C1 C2 C3 C4 C5 F0 F1 F2 F3 F4 F5 R0 R1 R2 R3 R4 R5 G0 G1 G2 G3 G4 G5 KM KR BW; have hI := HI.out.drawn hd2; clear hd2 HI; have HI := Lib.hid hI; have KM := Lib.hid hI.1; have KR := Lib.hid hI.2.1; have BW := Lib.hid hI.2.2; have C0 := blk_cell hI.1 0; have C1 := blk_cell hI.1 1; have C2 := blk_cell hI.1 2; have C3 := blk_cell hI.1 3; have C4 := blk_cell hI.1 4; have C5 := blk_cell hI.1 5; have F0 := blk_frozen hI.1 0; have F1 := blk_frozen hI.1 1; have F2 := blk_frozen hI.1 2; have F3 := blk_frozen hI.1 3; have F4 := blk_frozen hI.1 4; have F5 := blk_frozen hI.1 5; have R0 := blk_cell hI.2.1 0; have R1 := blk_cell hI.2.1 1; have R2 := blk_cell hI.2.1 2; have R3 := blk_cell hI.2.1 3; have R4 := blk_cell hI.2.1 4; have R5 := blk_cell hI.2.1 5; have G0 := blk_frozen hI.2.1 0; have G1 := blk_frozen hI.2.1 1; have G2 := blk_frozen hI.2.1 2; have G3 := blk_frozen hI.2.1 3; have G4 := blk_frozen hI.2.1 4; have G5 := blk_frozen hI.2.1 5; clear hI) | (go_at_call 27; refine (c4.out _).mono ?_; rintro e W3 ⟨rfl, hd3⟩; clear C0 C1 C2 C3 C4 C5 F0 F1 F2 F3 F4 F5 R0 R1 R2 R3 R4 R5 G0 G1 G2 G3 G4 G5 KM KR BW; have hI := HI.out.drawn hd3; clear hd3 HI; have HI := Lib.hid hI; have KM := Lib.hid hI.1; have KR := Lib.hid hI.2.1; have BW := Lib.hid hI.2.2; have C0 := blk_cell hI.1 0; have C1 := blk_cell hI.1 1; have C2 := blk_cell hI.1 2; have C3 := blk_cell hI.1 3; have C4 := blk_cell hI.1 4; have C5 := blk_cell hI.1 5; have F0 := blk_frozen hI.1 0; have F1 := blk_frozen hI.1 1; have F2 := blk_frozen hI.1 2; have F3 := blk_frozen hI.1 3; have F4 := blk_frozen hI.1 4; have F5 := blk_frozen hI.1 5; have R0 := blk_cell hI.2.1 0; have R1 := blk_cell hI.2.1 1; have R2 := blk_cell hI.2.1 2; have R3 := blk_cell hI.2.1 3; have R4 := blk_cell hI.2.1 4; have R5 := blk_cell hI.2.1 5; have G0 := blk_frozen hI.2.1 0; have G1 := blk_frozen hI.2.1 1; have G2 := blk_frozen hI.2.1 2; have G3 := blk_frozen hI.2.1 3; have G4 := blk_frozen hI.2.1 4; have G5 := blk_frozen hI.2.1 5; clear hI))
  refine bodyPost_ret (results_ct rfl _ _ (w.heap.size) 23 #[.int .u8 0, .int .i64 0, .int .i64 0, .int .i64 0, .int .i64 0, .int .i64 0] (0, 0) _ rfl ?hk Tryd.underlying23 rfl (by kernel_rfl)) rfl ⟨rfl, ?_⟩
  case hk => exact rule_puts KR.out ..
  · with_reducible repeat (first | exact BW.out | apply below_alloc | apply pw_below_drewN | apply below_drew1 | refine below_set ?_ (Nat.le_refl _) | refine below_set ?_ (show w.heap.size ≤ w.heap.size + 1 by omega))
set_option maxHeartbeats 2000000 in
set_option maxRecDepth 100000 in
theorem item_no46 (a0 : ByteArray) (a : Nat) (s : ByteArray) (c : Int) (n : Nat) (d : Int) (w : World) (hx : mdmark_ahead.f a0 a = some (s, true)) (hlt : a < s.size) (hs : s.size ≤ 140737488355328) (hcc : bt s a = c) (hc : ¬ 0 ≤ Lib.indexByte [45, 43, 42] c.toNat.toUInt8) (hnn : itemLen s a = n) (h1 : 1 ≤ n) (h9 : n ≤ 9) (hk : a + n < s.size) (hdd : bt s ((a + n : Nat) : Int) = d) (hds : d = 46) (hp : mdmark_parted.f s ((a + n + 1 : Nat) : Int) = some false) :
    Calls Tryd.prog 23 #[.string a0, .int .i64 a] w fun e w' => e = .returned (.tuple #[.agg #[.int .u8 0, .int .i64 0, .int .i64 0, .int .i64 0, .int .i64 0, .int .i64 0], .bool false]) ∧ Below w.heap.size w w' := by
  have c1 := Lib.hid (fun W => mdmark_ahead.calls a0 a s true W hx)
  have c5 := Lib.hid (fun W => strings_IndexByte.calls ⟨#[45, 43, 42]⟩ c _ W rfl)
  change Hid (∀ W, Calls Tryd.prog 40 _ W fun e w' => e = .returned (.int .i64 (Lib.indexByte [45, 43, 42] c.toNat.toUInt8)) ∧ Drawn0 W w') at c5
  have hu := Tryd.underlying23
  have E : ((s[a]'hlt).toNat : Int) = c := by rw [← hcc]; simpa using bt_at s a (by omega)
  have hi' : decide (Lib.indexByte [45, 43, 42] c.toNat.toUInt8 < 0) = true := decide_eq_true (by omega)
  generalize Lib.indexByte [45, 43, 42] c.toNat.toUInt8 = ix at c5 hi'
  have c4 : Hid (∀ W, Calls Tryd.prog 27 _ W fun e w' => e = .returned (.int .i64 ((itemLen s a : Nat) : Int)) ∧ Drawn0 W w') := Lib.hid (fun W => row_digit s a W hs (by omega))
  rw [hnn] at c4
  have han : a + n ≤ s.size := by
    have h1 := (stretch_le (p := fun i => isDigit (bt s i)) (m := s.size - a) (k := a))
    unfold itemLen far at hnn
    omega
  clear hc
  have d1 : decide ((n : Int) < 1) = false := decide_eq_false (by omega)
  have d2 : decide (9 < (n : Int)) = false := decide_eq_false (by omega)
  have e4 : ((a : Int) + (n : Int) == (s.size : Int)) = false := beq_eq_false_iff_ne.2 (by omega)
  have E2 : ((s[a + n]'hk).toNat : Int) = d := by rw [← hdd]; exact bt_nat s (a + n) hk
  have e5 : (d != 46) = false := bne_eq_false_iff_eq.2 hds
  have ec : ((a + n + 1 : Nat) : Int) = (a : Int) + (n : Int) + 1 := by omega
  rw [ec] at hp
  have c7 := Lib.hid (fun W => mdmark_parted.calls s ((a : Int) + (n : Int) + 1) _ W hp)
  have hz : (s.extract a (a + n)).size = n := by rw [ByteArray.size_extract]; omega
  have hdig : Hid (∀ k : Nat, k < n → 48 ≤ bt (s.extract a (a + n)) k ∧ bt (s.extract a (a + n)) k ≤ 57) := Lib.hid (fun k hk' => by have := isDigit_at s a k (by omega) (by omega); rwa [hnn] at this)
  have i0 : (0 : Int) ≤ (a : Int) := by omega
  have i2 : (a : Int) ≤ (a : Int) + (n : Int) := by omega
  have i3 : (a : Int) + (n : Int) ≤ (s.size : Int) := by omega
  generalize hR : itemGo (s.extract a (a + n)) n 0 0 = R
  generalize he : s.extract a (a + n) = e at hz hR hdig
  have kc := fun (W : World) => Lib.run_convert_string_bytes (P := Tryd.prog) W 9 32 5 e Tryd.underlying9 Tryd.underlying32 Tryd.underlying5
  have HR := Lib.hid hR
  clear hR hp hdd hds hnn
  go_enter Tryd.func23, Tryd.ntmps23
  go_wp2_with (first | (go_at_call 26; refine (c1.out _).mono ?_; rintro e W1 ⟨rfl, hd⟩; obtain ⟨k1, z1, b1⟩ := rule_blk hd; clear hd; have hI := item_two (ds := #[.int .u8 c, .int .i64 0, .int .i64 ((a : Int) + 1), .int .i64 0, .int .i64 0, .int .i64 0]) k1 z1 b1; have HI : Hid (ItemM w #[.int .u8 c, .int .i64 0, .int .i64 ((a : Int) + 1), .int .i64 0, .int .i64 0, .int .i64 0] _) := Lib.hid hI; clear hI; have hI := HI.out; have KM := Lib.hid hI.1; have KR := Lib.hid hI.2.1; have BW := Lib.hid hI.2.2; have C0 := blk_cell hI.1 0; have C1 := blk_cell hI.1 1; have C2 := blk_cell hI.1 2; have C3 := blk_cell hI.1 3; have C4 := blk_cell hI.1 4; have C5 := blk_cell hI.1 5; have F0 := blk_frozen hI.1 0; have F1 := blk_frozen hI.1 1; have F2 := blk_frozen hI.1 2; have F3 := blk_frozen hI.1 3; have F4 := blk_frozen hI.1 4; have F5 := blk_frozen hI.1 5; have R0 := blk_cell hI.2.1 0; have R1 := blk_cell hI.2.1 1; have R2 := blk_cell hI.2.1 2; have R3 := blk_cell hI.2.1 3; have R4 := blk_cell hI.2.1 4; have R5 := blk_cell hI.2.1 5; have G0 := blk_frozen hI.2.1 0; have G1 := blk_frozen hI.2.1 1; have G2 := blk_frozen hI.2.1 2; have G3 := blk_frozen hI.2.1 3; have G4 := blk_frozen hI.2.1 4; have G5 := blk_frozen hI.2.1 5; clear k1 b1 hI) | (go_at_call 40; refine (c5.out _).mono ?_; rintro e W2 ⟨rfl, hd2⟩; clear C0 C1 C2 C3 C4 C5 F0 F1 F2 F3 F4 F5 R0 R1 R2 R3 R4 R5 G0 G1 G2 G3 G4 G5 KM KR BW; have hI := HI.out.drawn hd2; clear hd2 HI; have HI := Lib.hid hI; have KM := Lib.hid hI.1; have KR := Lib.hid hI.2.1; have BW := Lib.hid hI.2.2; have C0 := blk_cell hI.1 0; have C1 := blk_cell hI.1 1; have C2 := blk_cell hI.1 2; have C3 := blk_cell hI.1 3; have C4 := blk_cell hI.1 4; have C5 := blk_cell hI.1 5; have F0 := blk_frozen hI.1 0; have F1 := blk_frozen hI.1 1; have F2 := blk_frozen hI.1 2; have F3 := blk_frozen hI.1 3; have F4 := blk_frozen hI.1 4; have F5 := blk_frozen hI.1 5; have R0 := blk_cell hI.2.1 0; have R1 := blk_cell hI.2.1 1; have R2 := blk_cell hI.2.1 2; have R3 := blk_cell hI.2.1 3; have R4 := blk_cell hI.2.1 4; have R5 := blk_cell hI.2.1 5; have G0 := blk_frozen hI.2.1 0; have G1 := blk_frozen hI.2.1 1; have G2 := blk_frozen hI.2.1 2; have G3 := blk_frozen hI.2.1 3; have G4 := blk_frozen hI.2.1 4; have G5 := blk_frozen hI.2.1 5; clear hI) | (go_at_call 27; refine (c4.out _).mono ?_; rintro e W3 ⟨rfl, hd3⟩; clear C0 C1 C2 C3 C4 C5 F0 F1 F2 F3 F4 F5 R0 R1 R2 R3 R4 R5 G0 G1 G2 G3 G4 G5 KM KR BW; have hI := HI.out.drawn hd3; clear hd3 HI; have HI := Lib.hid hI; have KM := Lib.hid hI.1; have KR := Lib.hid hI.2.1; have BW := Lib.hid hI.2.2; have C0 := blk_cell hI.1 0; have C1 := blk_cell hI.1 1; have C2 := blk_cell hI.1 2; have C3 := blk_cell hI.1 3; have C4 := blk_cell hI.1 4; have C5 := blk_cell hI.1 5; have F0 := blk_frozen hI.1 0; have F1 := blk_frozen hI.1 1; have F2 := blk_frozen hI.1 2; have F3 := blk_frozen hI.1 3; have F4 := blk_frozen hI.1 4; have F5 := blk_frozen hI.1 5; have R0 := blk_cell hI.2.1 0; have R1 := blk_cell hI.2.1 1; have R2 := blk_cell hI.2.1 2; have R3 := blk_cell hI.2.1 3; have R4 := blk_cell hI.2.1 4; have R5 := blk_cell hI.2.1 5; have G0 := blk_frozen hI.2.1 0; have G1 := blk_frozen hI.2.1 1; have G2 := blk_frozen hI.2.1 2; have G3 := blk_frozen hI.2.1 3; have G4 := blk_frozen hI.2.1 4; have G5 := blk_frozen hI.2.1 5; clear hI; have hJ := item_conv (s := e) HI.out; have HJ := Lib.hid hJ; clear hJ; have zz := blk_lt HI.out.1))
  go_loopw [73] (fun i wr => ItemL w e c ((a : Int) + 1) n W3.heap.size R i wr) (fun i _ => n - (intOf i).toNat)
  case atStart => exact ⟨0, 0, Nat.zero_le _, rfl, by omega, by omega, HR.out, HJ.out.1, fun j hj => HJ.out.2 j (by rw [hz]; exact hj)⟩
  case round =>
    clear C0 C1 C2 C3 C4 C5 F0 F1 F2 F3 F4 F5 R0 R1 R2 R3 R4 R5 G0 G1 G2 G3 G4 G5 KM KR BW HJ kc E HI
    obtain ⟨k, v, hk', rfl, v0, v1, hgo, hI, hC⟩ := hrel
    have HG := Lib.hid hgo
    have HI := Lib.hid hI
    have HC := Lib.hid hC
    have KM := Lib.hid hI.1; have KR := Lib.hid hI.2.1; have BW := Lib.hid hI.2.2; have C0 := blk_cell hI.1 0; have C1 := blk_cell hI.1 1; have C2 := blk_cell hI.1 2; have C3 := blk_cell hI.1 3; have C4 := blk_cell hI.1 4; have C5 := blk_cell hI.1 5; have F0 := blk_frozen hI.1 0; have F1 := blk_frozen hI.1 1; have F2 := blk_frozen hI.1 2; have F3 := blk_frozen hI.1 3; have F4 := blk_frozen hI.1 4; have F5 := blk_frozen hI.1 5; have R0 := blk_cell hI.2.1 0; have R1 := blk_cell hI.2.1 1; have R2 := blk_cell hI.2.1 2; have R3 := blk_cell hI.2.1 3; have R4 := blk_cell hI.2.1 4; have R5 := blk_cell hI.2.1 5; have G0 := blk_frozen hI.2.1 0; have G1 := blk_frozen hI.2.1 1; have G2 := blk_frozen hI.2.1 2; have G3 := blk_frozen hI.2.1 3; have G4 := blk_frozen hI.2.1 4; have G5 := blk_frozen hI.2.1 5
    clear hgo hC hI
    by_cases hlk : k < n
    · obtain ⟨y, hy⟩ : ∃ y, bt e k = y := ⟨_, rfl⟩
      have Cy : wr.cell? ⟨W3.heap.size, k, none⟩ = some (.int .u8 y) := hy ▸ HC.out k hlk
      have hb := hdig.out k hlk
      rw [hy] at hb
      obtain ⟨y0, y1⟩ := hb
      have HM := Lib.hid (itemGo_more HG.out hlk)
      have HY := Lib.hid hy
      clear hy
      have f1 : decide ((k : Int) < (n : Int)) = true := decide_eq_true (by omega)
      have f2 : decide (k < n) = true := decide_eq_true hlk
      have hp1 : (10 ^ k : Nat) ≤ 10 ^ 8 := Nat.pow_le_pow_right (by omega) (by omega)
      have v2 : v ≤ 99999999 := by
        have h8 : (10 ^ 8 : Nat) = 100000000 := by decide
        omega
      have V1 := Lib.hid v1
      clear v1 hp1
      go_wp2
      go_roundw
      case rel => exact ⟨k + 1, 10 * v + (y - 48), hlk, by go_num, by omega, by have := V1.out; rw [Nat.pow_succ]; omega, by have := HM.out; rwa [HY.out] at this, HI.out.put 1 _ (by simp), fun j hj => by
        have := HC.out j hj
        simpa [World.cell?, World.setCell, Array.getElem?_modify, show w.heap.size + 1 ≠ W3.heap.size by omega] using this⟩
      case measure => simp [intOf]; omega
    · have HN := Lib.hid (itemGo_end HG.out hlk)
      have f1 : decide ((k : Int) < (n : Int)) = false := decide_eq_false (by omega)
      have f2 : decide (k < n) = false := decide_eq_false hlk
      clear v0 v1
      go_wp2_with (first | (go_at_call 29; refine (c7.out _).mono ?_; rintro e W5 ⟨rfl, hd5⟩; clear C0 C1 C2 C3 C4 C5 F0 F1 F2 F3 F4 F5 R0 R1 R2 R3 R4 R5 G0 G1 G2 G3 G4 G5 KM KR BW; have hI : ItemM w #[.int .u8 d, .int .i64 v, .int .i64 ((a : Int) + (n : Int) + 1), .int .i64 0, .int .i64 0, .int .i64 0] W5 := ((HI.out.put 0 _ rfl).put 2 _ rfl).drawn hd5; clear hd5 HI; have HI := Lib.hid hI; have KM := Lib.hid hI.1; have KR := Lib.hid hI.2.1; have BW := Lib.hid hI.2.2; have C0 := blk_cell hI.1 0; have C1 := blk_cell hI.1 1; have C2 := blk_cell hI.1 2; have C3 := blk_cell hI.1 3; have C4 := blk_cell hI.1 4; have C5 := blk_cell hI.1 5; have F0 := blk_frozen hI.1 0; have F1 := blk_frozen hI.1 1; have F2 := blk_frozen hI.1 2; have F3 := blk_frozen hI.1 3; have F4 := blk_frozen hI.1 4; have F5 := blk_frozen hI.1 5; have R0 := blk_cell hI.2.1 0; have R1 := blk_cell hI.2.1 1; have R2 := blk_cell hI.2.1 2; have R3 := blk_cell hI.2.1 3; have R4 := blk_cell hI.2.1 4; have R5 := blk_cell hI.2.1 5; have G0 := blk_frozen hI.2.1 0; have G1 := blk_frozen hI.2.1 1; have G2 := blk_frozen hI.2.1 2; have G3 := blk_frozen hI.2.1 3; have G4 := blk_frozen hI.2.1 4; have G5 := blk_frozen hI.2.1 5; clear hI))
      refine bodyPost_ret (results_ct rfl _ _ (w.heap.size) 23 #[.int .u8 0, .int .i64 0, .int .i64 0, .int .i64 0, .int .i64 0, .int .i64 0] (0, 0) _ rfl ?hk Tryd.underlying23 rfl (by kernel_rfl)) rfl ⟨rfl, ?_⟩
      case hk => exact rule_puts KR.out ..
      · with_reducible repeat (first | exact BW.out | apply below_alloc | apply pw_below_drewN | apply below_drew1 | refine below_set ?_ (Nat.le_refl _) | refine below_set ?_ (show w.heap.size ≤ w.heap.size + 1 by omega))
set_option maxHeartbeats 2000000 in
set_option maxRecDepth 100000 in
theorem item_yes46 (a0 : ByteArray) (a : Nat) (s : ByteArray) (c : Int) (n : Nat) (d : Int) (l : Int) (w : World) (hx : mdmark_ahead.f a0 a = some (s, true)) (hlt : a < s.size) (hs : s.size ≤ 140737488355328) (hcc : bt s a = c) (hc : ¬ 0 ≤ Lib.indexByte [45, 43, 42] c.toNat.toUInt8) (hnn : itemLen s a = n) (h1 : 1 ≤ n) (h9 : n ≤ 9) (hk : a + n < s.size) (hdd : bt s ((a + n : Nat) : Int) = d) (hds : d = 46) (hp : mdmark_parted.f s ((a + n + 1 : Nat) : Int) = some true) (hl : mdmark_last.f s ((a + n + 1 : Nat) : Int) = some l) :
    Calls Tryd.prog 23 #[.string a0, .int .i64 a] w fun e w' => e = .returned (.tuple #[.agg #[.int .u8 (d), .int .i64 (itemGo (s.extract a (a + n)) n 0 0), .int .i64 ((a + n + 1 : Nat)), .int .i64 0, .int .i64 0, .int .i64 (l)], .bool true]) ∧ Below w.heap.size w w' := by
  have c1 := Lib.hid (fun W => mdmark_ahead.calls a0 a s true W hx)
  have c5 := Lib.hid (fun W => strings_IndexByte.calls ⟨#[45, 43, 42]⟩ c _ W rfl)
  change Hid (∀ W, Calls Tryd.prog 40 _ W fun e w' => e = .returned (.int .i64 (Lib.indexByte [45, 43, 42] c.toNat.toUInt8)) ∧ Drawn0 W w') at c5
  have hu := Tryd.underlying23
  have E : ((s[a]'hlt).toNat : Int) = c := by rw [← hcc]; simpa using bt_at s a (by omega)
  have hi' : decide (Lib.indexByte [45, 43, 42] c.toNat.toUInt8 < 0) = true := decide_eq_true (by omega)
  generalize Lib.indexByte [45, 43, 42] c.toNat.toUInt8 = ix at c5 hi'
  have c4 : Hid (∀ W, Calls Tryd.prog 27 _ W fun e w' => e = .returned (.int .i64 ((itemLen s a : Nat) : Int)) ∧ Drawn0 W w') := Lib.hid (fun W => row_digit s a W hs (by omega))
  rw [hnn] at c4
  have han : a + n ≤ s.size := by
    have h1 := (stretch_le (p := fun i => isDigit (bt s i)) (m := s.size - a) (k := a))
    unfold itemLen far at hnn
    omega
  clear hc
  have d1 : decide ((n : Int) < 1) = false := decide_eq_false (by omega)
  have d2 : decide (9 < (n : Int)) = false := decide_eq_false (by omega)
  have e4 : ((a : Int) + (n : Int) == (s.size : Int)) = false := beq_eq_false_iff_ne.2 (by omega)
  have E2 : ((s[a + n]'hk).toNat : Int) = d := by rw [← hdd]; exact bt_nat s (a + n) hk
  have e5 : (d != 46) = false := bne_eq_false_iff_eq.2 hds
  have ec : ((a + n + 1 : Nat) : Int) = (a : Int) + (n : Int) + 1 := by omega
  rw [ec] at hp hl
  have c7 := Lib.hid (fun W => mdmark_parted.calls s ((a : Int) + (n : Int) + 1) _ W hp)
  have c8 := Lib.hid (fun W => mdmark_last.calls s ((a : Int) + (n : Int) + 1) _ W hl)
  clear hl
  have hz : (s.extract a (a + n)).size = n := by rw [ByteArray.size_extract]; omega
  have hdig : Hid (∀ k : Nat, k < n → 48 ≤ bt (s.extract a (a + n)) k ∧ bt (s.extract a (a + n)) k ≤ 57) := Lib.hid (fun k hk' => by have := isDigit_at s a k (by omega) (by omega); rwa [hnn] at this)
  have i0 : (0 : Int) ≤ (a : Int) := by omega
  have i2 : (a : Int) ≤ (a : Int) + (n : Int) := by omega
  have i3 : (a : Int) + (n : Int) ≤ (s.size : Int) := by omega
  generalize hR : itemGo (s.extract a (a + n)) n 0 0 = R
  generalize he : s.extract a (a + n) = e at hz hR hdig
  have kc := fun (W : World) => Lib.run_convert_string_bytes (P := Tryd.prog) W 9 32 5 e Tryd.underlying9 Tryd.underlying32 Tryd.underlying5
  have HR := Lib.hid hR
  clear hR hp hdd hds hnn
  go_enter Tryd.func23, Tryd.ntmps23
  go_wp2_with (first | (go_at_call 26; refine (c1.out _).mono ?_; rintro e W1 ⟨rfl, hd⟩; obtain ⟨k1, z1, b1⟩ := rule_blk hd; clear hd; have hI := item_two (ds := #[.int .u8 c, .int .i64 0, .int .i64 ((a : Int) + 1), .int .i64 0, .int .i64 0, .int .i64 0]) k1 z1 b1; have HI : Hid (ItemM w #[.int .u8 c, .int .i64 0, .int .i64 ((a : Int) + 1), .int .i64 0, .int .i64 0, .int .i64 0] _) := Lib.hid hI; clear hI; have hI := HI.out; have KM := Lib.hid hI.1; have KR := Lib.hid hI.2.1; have BW := Lib.hid hI.2.2; have C0 := blk_cell hI.1 0; have C1 := blk_cell hI.1 1; have C2 := blk_cell hI.1 2; have C3 := blk_cell hI.1 3; have C4 := blk_cell hI.1 4; have C5 := blk_cell hI.1 5; have F0 := blk_frozen hI.1 0; have F1 := blk_frozen hI.1 1; have F2 := blk_frozen hI.1 2; have F3 := blk_frozen hI.1 3; have F4 := blk_frozen hI.1 4; have F5 := blk_frozen hI.1 5; have R0 := blk_cell hI.2.1 0; have R1 := blk_cell hI.2.1 1; have R2 := blk_cell hI.2.1 2; have R3 := blk_cell hI.2.1 3; have R4 := blk_cell hI.2.1 4; have R5 := blk_cell hI.2.1 5; have G0 := blk_frozen hI.2.1 0; have G1 := blk_frozen hI.2.1 1; have G2 := blk_frozen hI.2.1 2; have G3 := blk_frozen hI.2.1 3; have G4 := blk_frozen hI.2.1 4; have G5 := blk_frozen hI.2.1 5; clear k1 b1 hI) | (go_at_call 40; refine (c5.out _).mono ?_; rintro e W2 ⟨rfl, hd2⟩; clear C0 C1 C2 C3 C4 C5 F0 F1 F2 F3 F4 F5 R0 R1 R2 R3 R4 R5 G0 G1 G2 G3 G4 G5 KM KR BW; have hI := HI.out.drawn hd2; clear hd2 HI; have HI := Lib.hid hI; have KM := Lib.hid hI.1; have KR := Lib.hid hI.2.1; have BW := Lib.hid hI.2.2; have C0 := blk_cell hI.1 0; have C1 := blk_cell hI.1 1; have C2 := blk_cell hI.1 2; have C3 := blk_cell hI.1 3; have C4 := blk_cell hI.1 4; have C5 := blk_cell hI.1 5; have F0 := blk_frozen hI.1 0; have F1 := blk_frozen hI.1 1; have F2 := blk_frozen hI.1 2; have F3 := blk_frozen hI.1 3; have F4 := blk_frozen hI.1 4; have F5 := blk_frozen hI.1 5; have R0 := blk_cell hI.2.1 0; have R1 := blk_cell hI.2.1 1; have R2 := blk_cell hI.2.1 2; have R3 := blk_cell hI.2.1 3; have R4 := blk_cell hI.2.1 4; have R5 := blk_cell hI.2.1 5; have G0 := blk_frozen hI.2.1 0; have G1 := blk_frozen hI.2.1 1; have G2 := blk_frozen hI.2.1 2; have G3 := blk_frozen hI.2.1 3; have G4 := blk_frozen hI.2.1 4; have G5 := blk_frozen hI.2.1 5; clear hI) | (go_at_call 27; refine (c4.out _).mono ?_; rintro e W3 ⟨rfl, hd3⟩; clear C0 C1 C2 C3 C4 C5 F0 F1 F2 F3 F4 F5 R0 R1 R2 R3 R4 R5 G0 G1 G2 G3 G4 G5 KM KR BW; have hI := HI.out.drawn hd3; clear hd3 HI; have HI := Lib.hid hI; have KM := Lib.hid hI.1; have KR := Lib.hid hI.2.1; have BW := Lib.hid hI.2.2; have C0 := blk_cell hI.1 0; have C1 := blk_cell hI.1 1; have C2 := blk_cell hI.1 2; have C3 := blk_cell hI.1 3; have C4 := blk_cell hI.1 4; have C5 := blk_cell hI.1 5; have F0 := blk_frozen hI.1 0; have F1 := blk_frozen hI.1 1; have F2 := blk_frozen hI.1 2; have F3 := blk_frozen hI.1 3; have F4 := blk_frozen hI.1 4; have F5 := blk_frozen hI.1 5; have R0 := blk_cell hI.2.1 0; have R1 := blk_cell hI.2.1 1; have R2 := blk_cell hI.2.1 2; have R3 := blk_cell hI.2.1 3; have R4 := blk_cell hI.2.1 4; have R5 := blk_cell hI.2.1 5; have G0 := blk_frozen hI.2.1 0; have G1 := blk_frozen hI.2.1 1; have G2 := blk_frozen hI.2.1 2; have G3 := blk_frozen hI.2.1 3; have G4 := blk_frozen hI.2.1 4; have G5 := blk_frozen hI.2.1 5; clear hI; have hJ := item_conv (s := e) HI.out; have HJ := Lib.hid hJ; clear hJ; have zz := blk_lt HI.out.1))
  go_loopw [73] (fun i wr => ItemL w e c ((a : Int) + 1) n W3.heap.size R i wr) (fun i _ => n - (intOf i).toNat)
  case atStart => exact ⟨0, 0, Nat.zero_le _, rfl, by omega, by omega, HR.out, HJ.out.1, fun j hj => HJ.out.2 j (by rw [hz]; exact hj)⟩
  case round =>
    clear C0 C1 C2 C3 C4 C5 F0 F1 F2 F3 F4 F5 R0 R1 R2 R3 R4 R5 G0 G1 G2 G3 G4 G5 KM KR BW HJ kc E HI
    obtain ⟨k, v, hk', rfl, v0, v1, hgo, hI, hC⟩ := hrel
    have HG := Lib.hid hgo
    have HI := Lib.hid hI
    have HC := Lib.hid hC
    have KM := Lib.hid hI.1; have KR := Lib.hid hI.2.1; have BW := Lib.hid hI.2.2; have C0 := blk_cell hI.1 0; have C1 := blk_cell hI.1 1; have C2 := blk_cell hI.1 2; have C3 := blk_cell hI.1 3; have C4 := blk_cell hI.1 4; have C5 := blk_cell hI.1 5; have F0 := blk_frozen hI.1 0; have F1 := blk_frozen hI.1 1; have F2 := blk_frozen hI.1 2; have F3 := blk_frozen hI.1 3; have F4 := blk_frozen hI.1 4; have F5 := blk_frozen hI.1 5; have R0 := blk_cell hI.2.1 0; have R1 := blk_cell hI.2.1 1; have R2 := blk_cell hI.2.1 2; have R3 := blk_cell hI.2.1 3; have R4 := blk_cell hI.2.1 4; have R5 := blk_cell hI.2.1 5; have G0 := blk_frozen hI.2.1 0; have G1 := blk_frozen hI.2.1 1; have G2 := blk_frozen hI.2.1 2; have G3 := blk_frozen hI.2.1 3; have G4 := blk_frozen hI.2.1 4; have G5 := blk_frozen hI.2.1 5
    clear hgo hC hI
    by_cases hlk : k < n
    · obtain ⟨y, hy⟩ : ∃ y, bt e k = y := ⟨_, rfl⟩
      have Cy : wr.cell? ⟨W3.heap.size, k, none⟩ = some (.int .u8 y) := hy ▸ HC.out k hlk
      have hb := hdig.out k hlk
      rw [hy] at hb
      obtain ⟨y0, y1⟩ := hb
      have HM := Lib.hid (itemGo_more HG.out hlk)
      have HY := Lib.hid hy
      clear hy
      have f1 : decide ((k : Int) < (n : Int)) = true := decide_eq_true (by omega)
      have f2 : decide (k < n) = true := decide_eq_true hlk
      have hp1 : (10 ^ k : Nat) ≤ 10 ^ 8 := Nat.pow_le_pow_right (by omega) (by omega)
      have v2 : v ≤ 99999999 := by
        have h8 : (10 ^ 8 : Nat) = 100000000 := by decide
        omega
      have V1 := Lib.hid v1
      clear v1 hp1
      go_wp2
      go_roundw
      case rel => exact ⟨k + 1, 10 * v + (y - 48), hlk, by go_num, by omega, by have := V1.out; rw [Nat.pow_succ]; omega, by have := HM.out; rwa [HY.out] at this, HI.out.put 1 _ (by simp), fun j hj => by
        have := HC.out j hj
        simpa [World.cell?, World.setCell, Array.getElem?_modify, show w.heap.size + 1 ≠ W3.heap.size by omega] using this⟩
      case measure => simp [intOf]; omega
    · have HN := Lib.hid (itemGo_end HG.out hlk)
      have f1 : decide ((k : Int) < (n : Int)) = false := decide_eq_false (by omega)
      have f2 : decide (k < n) = false := decide_eq_false hlk
      clear v0 v1
      go_wp2_with (first | (go_at_call 29; refine (c7.out _).mono ?_; rintro e W5 ⟨rfl, hd5⟩; clear C0 C1 C2 C3 C4 C5 F0 F1 F2 F3 F4 F5 R0 R1 R2 R3 R4 R5 G0 G1 G2 G3 G4 G5 KM KR BW; have hI : ItemM w #[.int .u8 d, .int .i64 v, .int .i64 ((a : Int) + (n : Int) + 1), .int .i64 0, .int .i64 0, .int .i64 0] W5 := ((HI.out.put 0 _ rfl).put 2 _ rfl).drawn hd5; clear hd5 HI; have HI := Lib.hid hI; have KM := Lib.hid hI.1; have KR := Lib.hid hI.2.1; have BW := Lib.hid hI.2.2; have C0 := blk_cell hI.1 0; have C1 := blk_cell hI.1 1; have C2 := blk_cell hI.1 2; have C3 := blk_cell hI.1 3; have C4 := blk_cell hI.1 4; have C5 := blk_cell hI.1 5; have F0 := blk_frozen hI.1 0; have F1 := blk_frozen hI.1 1; have F2 := blk_frozen hI.1 2; have F3 := blk_frozen hI.1 3; have F4 := blk_frozen hI.1 4; have F5 := blk_frozen hI.1 5; have R0 := blk_cell hI.2.1 0; have R1 := blk_cell hI.2.1 1; have R2 := blk_cell hI.2.1 2; have R3 := blk_cell hI.2.1 3; have R4 := blk_cell hI.2.1 4; have R5 := blk_cell hI.2.1 5; have G0 := blk_frozen hI.2.1 0; have G1 := blk_frozen hI.2.1 1; have G2 := blk_frozen hI.2.1 2; have G3 := blk_frozen hI.2.1 3; have G4 := blk_frozen hI.2.1 4; have G5 := blk_frozen hI.2.1 5; clear hI) | (go_at_call 30; refine (c8.out _).mono ?_; rintro e W6 ⟨rfl, hb6⟩; clear C0 C1 C2 C3 C4 C5 F0 F1 F2 F3 F4 F5 R0 R1 R2 R3 R4 R5 G0 G1 G2 G3 G4 G5 KM KR BW; have hI := HI.out.below hb6; clear hb6 HI; have HI := Lib.hid hI; have KM := Lib.hid hI.1; have KR := Lib.hid hI.2.1; have BW := Lib.hid hI.2.2; have C0 := blk_cell hI.1 0; have C1 := blk_cell hI.1 1; have C2 := blk_cell hI.1 2; have C3 := blk_cell hI.1 3; have C4 := blk_cell hI.1 4; have C5 := blk_cell hI.1 5; have F0 := blk_frozen hI.1 0; have F1 := blk_frozen hI.1 1; have F2 := blk_frozen hI.1 2; have F3 := blk_frozen hI.1 3; have F4 := blk_frozen hI.1 4; have F5 := blk_frozen hI.1 5; have R0 := blk_cell hI.2.1 0; have R1 := blk_cell hI.2.1 1; have R2 := blk_cell hI.2.1 2; have R3 := blk_cell hI.2.1 3; have R4 := blk_cell hI.2.1 4; have R5 := blk_cell hI.2.1 5; have G0 := blk_frozen hI.2.1 0; have G1 := blk_frozen hI.2.1 1; have G2 := blk_frozen hI.2.1 2; have G3 := blk_frozen hI.2.1 3; have G4 := blk_frozen hI.2.1 4; have G5 := blk_frozen hI.2.1 5; clear hI))
      refine bodyPost_ret (results_ct rfl _ _ (w.heap.size) 23 #[.int .u8 (d), .int .i64 (v), .int .i64 (((a : Int) + (n : Int) + 1)), .int .i64 0, .int .i64 0, .int .i64 (l)] (0, 0) _ rfl ?hk Tryd.underlying23 rfl (by kernel_rfl)) rfl ⟨by rw [← HN.out, ec]; rfl, ?_⟩
      case hk => exact rule_puts (blk_far KR.out (show w.heap.size ≠ w.heap.size + 1 by omega) _) ..
      · with_reducible repeat (first | exact BW.out | apply below_alloc | apply pw_below_drewN | apply below_drew1 | refine below_set ?_ (Nat.le_refl _) | refine below_set ?_ (show w.heap.size ≤ w.heap.size + 1 by omega))
set_option maxHeartbeats 2000000 in
set_option maxRecDepth 100000 in
theorem item_no41 (a0 : ByteArray) (a : Nat) (s : ByteArray) (c : Int) (n : Nat) (d : Int) (w : World) (hx : mdmark_ahead.f a0 a = some (s, true)) (hlt : a < s.size) (hs : s.size ≤ 140737488355328) (hcc : bt s a = c) (hc : ¬ 0 ≤ Lib.indexByte [45, 43, 42] c.toNat.toUInt8) (hnn : itemLen s a = n) (h1 : 1 ≤ n) (h9 : n ≤ 9) (hk : a + n < s.size) (hdd : bt s ((a + n : Nat) : Int) = d) (hds : d = 41) (hp : mdmark_parted.f s ((a + n + 1 : Nat) : Int) = some false) :
    Calls Tryd.prog 23 #[.string a0, .int .i64 a] w fun e w' => e = .returned (.tuple #[.agg #[.int .u8 0, .int .i64 0, .int .i64 0, .int .i64 0, .int .i64 0, .int .i64 0], .bool false]) ∧ Below w.heap.size w w' := by
  have c1 := Lib.hid (fun W => mdmark_ahead.calls a0 a s true W hx)
  have c5 := Lib.hid (fun W => strings_IndexByte.calls ⟨#[45, 43, 42]⟩ c _ W rfl)
  change Hid (∀ W, Calls Tryd.prog 40 _ W fun e w' => e = .returned (.int .i64 (Lib.indexByte [45, 43, 42] c.toNat.toUInt8)) ∧ Drawn0 W w') at c5
  have hu := Tryd.underlying23
  have E : ((s[a]'hlt).toNat : Int) = c := by rw [← hcc]; simpa using bt_at s a (by omega)
  have hi' : decide (Lib.indexByte [45, 43, 42] c.toNat.toUInt8 < 0) = true := decide_eq_true (by omega)
  generalize Lib.indexByte [45, 43, 42] c.toNat.toUInt8 = ix at c5 hi'
  have c4 : Hid (∀ W, Calls Tryd.prog 27 _ W fun e w' => e = .returned (.int .i64 ((itemLen s a : Nat) : Int)) ∧ Drawn0 W w') := Lib.hid (fun W => row_digit s a W hs (by omega))
  rw [hnn] at c4
  have han : a + n ≤ s.size := by
    have h1 := (stretch_le (p := fun i => isDigit (bt s i)) (m := s.size - a) (k := a))
    unfold itemLen far at hnn
    omega
  clear hc
  have d1 : decide ((n : Int) < 1) = false := decide_eq_false (by omega)
  have d2 : decide (9 < (n : Int)) = false := decide_eq_false (by omega)
  have e4 : ((a : Int) + (n : Int) == (s.size : Int)) = false := beq_eq_false_iff_ne.2 (by omega)
  have E2 : ((s[a + n]'hk).toNat : Int) = d := by rw [← hdd]; exact bt_nat s (a + n) hk
  have e5 : (d != 46) = true := bne_iff_ne.2 (by omega)
  have e6 : (d != 41) = false := bne_eq_false_iff_eq.2 hds
  have ec : ((a + n + 1 : Nat) : Int) = (a : Int) + (n : Int) + 1 := by omega
  rw [ec] at hp
  have c7 := Lib.hid (fun W => mdmark_parted.calls s ((a : Int) + (n : Int) + 1) _ W hp)
  have hz : (s.extract a (a + n)).size = n := by rw [ByteArray.size_extract]; omega
  have hdig : Hid (∀ k : Nat, k < n → 48 ≤ bt (s.extract a (a + n)) k ∧ bt (s.extract a (a + n)) k ≤ 57) := Lib.hid (fun k hk' => by have := isDigit_at s a k (by omega) (by omega); rwa [hnn] at this)
  have i0 : (0 : Int) ≤ (a : Int) := by omega
  have i2 : (a : Int) ≤ (a : Int) + (n : Int) := by omega
  have i3 : (a : Int) + (n : Int) ≤ (s.size : Int) := by omega
  generalize hR : itemGo (s.extract a (a + n)) n 0 0 = R
  generalize he : s.extract a (a + n) = e at hz hR hdig
  have kc := fun (W : World) => Lib.run_convert_string_bytes (P := Tryd.prog) W 9 32 5 e Tryd.underlying9 Tryd.underlying32 Tryd.underlying5
  have HR := Lib.hid hR
  clear hR hp hdd hds hnn
  go_enter Tryd.func23, Tryd.ntmps23
  go_wp2_with (first | (go_at_call 26; refine (c1.out _).mono ?_; rintro e W1 ⟨rfl, hd⟩; obtain ⟨k1, z1, b1⟩ := rule_blk hd; clear hd; have hI := item_two (ds := #[.int .u8 c, .int .i64 0, .int .i64 ((a : Int) + 1), .int .i64 0, .int .i64 0, .int .i64 0]) k1 z1 b1; have HI : Hid (ItemM w #[.int .u8 c, .int .i64 0, .int .i64 ((a : Int) + 1), .int .i64 0, .int .i64 0, .int .i64 0] _) := Lib.hid hI; clear hI; have hI := HI.out; have KM := Lib.hid hI.1; have KR := Lib.hid hI.2.1; have BW := Lib.hid hI.2.2; have C0 := blk_cell hI.1 0; have C1 := blk_cell hI.1 1; have C2 := blk_cell hI.1 2; have C3 := blk_cell hI.1 3; have C4 := blk_cell hI.1 4; have C5 := blk_cell hI.1 5; have F0 := blk_frozen hI.1 0; have F1 := blk_frozen hI.1 1; have F2 := blk_frozen hI.1 2; have F3 := blk_frozen hI.1 3; have F4 := blk_frozen hI.1 4; have F5 := blk_frozen hI.1 5; have R0 := blk_cell hI.2.1 0; have R1 := blk_cell hI.2.1 1; have R2 := blk_cell hI.2.1 2; have R3 := blk_cell hI.2.1 3; have R4 := blk_cell hI.2.1 4; have R5 := blk_cell hI.2.1 5; have G0 := blk_frozen hI.2.1 0; have G1 := blk_frozen hI.2.1 1; have G2 := blk_frozen hI.2.1 2; have G3 := blk_frozen hI.2.1 3; have G4 := blk_frozen hI.2.1 4; have G5 := blk_frozen hI.2.1 5; clear k1 b1 hI) | (go_at_call 40; refine (c5.out _).mono ?_; rintro e W2 ⟨rfl, hd2⟩; clear C0 C1 C2 C3 C4 C5 F0 F1 F2 F3 F4 F5 R0 R1 R2 R3 R4 R5 G0 G1 G2 G3 G4 G5 KM KR BW; have hI := HI.out.drawn hd2; clear hd2 HI; have HI := Lib.hid hI; have KM := Lib.hid hI.1; have KR := Lib.hid hI.2.1; have BW := Lib.hid hI.2.2; have C0 := blk_cell hI.1 0; have C1 := blk_cell hI.1 1; have C2 := blk_cell hI.1 2; have C3 := blk_cell hI.1 3; have C4 := blk_cell hI.1 4; have C5 := blk_cell hI.1 5; have F0 := blk_frozen hI.1 0; have F1 := blk_frozen hI.1 1; have F2 := blk_frozen hI.1 2; have F3 := blk_frozen hI.1 3; have F4 := blk_frozen hI.1 4; have F5 := blk_frozen hI.1 5; have R0 := blk_cell hI.2.1 0; have R1 := blk_cell hI.2.1 1; have R2 := blk_cell hI.2.1 2; have R3 := blk_cell hI.2.1 3; have R4 := blk_cell hI.2.1 4; have R5 := blk_cell hI.2.1 5; have G0 := blk_frozen hI.2.1 0; have G1 := blk_frozen hI.2.1 1; have G2 := blk_frozen hI.2.1 2; have G3 := blk_frozen hI.2.1 3; have G4 := blk_frozen hI.2.1 4; have G5 := blk_frozen hI.2.1 5; clear hI) | (go_at_call 27; refine (c4.out _).mono ?_; rintro e W3 ⟨rfl, hd3⟩; clear C0 C1 C2 C3 C4 C5 F0 F1 F2 F3 F4 F5 R0 R1 R2 R3 R4 R5 G0 G1 G2 G3 G4 G5 KM KR BW; have hI := HI.out.drawn hd3; clear hd3 HI; have HI := Lib.hid hI; have KM := Lib.hid hI.1; have KR := Lib.hid hI.2.1; have BW := Lib.hid hI.2.2; have C0 := blk_cell hI.1 0; have C1 := blk_cell hI.1 1; have C2 := blk_cell hI.1 2; have C3 := blk_cell hI.1 3; have C4 := blk_cell hI.1 4; have C5 := blk_cell hI.1 5; have F0 := blk_frozen hI.1 0; have F1 := blk_frozen hI.1 1; have F2 := blk_frozen hI.1 2; have F3 := blk_frozen hI.1 3; have F4 := blk_frozen hI.1 4; have F5 := blk_frozen hI.1 5; have R0 := blk_cell hI.2.1 0; have R1 := blk_cell hI.2.1 1; have R2 := blk_cell hI.2.1 2; have R3 := blk_cell hI.2.1 3; have R4 := blk_cell hI.2.1 4; have R5 := blk_cell hI.2.1 5; have G0 := blk_frozen hI.2.1 0; have G1 := blk_frozen hI.2.1 1; have G2 := blk_frozen hI.2.1 2; have G3 := blk_frozen hI.2.1 3; have G4 := blk_frozen hI.2.1 4; have G5 := blk_frozen hI.2.1 5; clear hI; have hJ := item_conv (s := e) HI.out; have HJ := Lib.hid hJ; clear hJ; have zz := blk_lt HI.out.1))
  go_loopw [73] (fun i wr => ItemL w e c ((a : Int) + 1) n W3.heap.size R i wr) (fun i _ => n - (intOf i).toNat)
  case atStart => exact ⟨0, 0, Nat.zero_le _, rfl, by omega, by omega, HR.out, HJ.out.1, fun j hj => HJ.out.2 j (by rw [hz]; exact hj)⟩
  case round =>
    clear C0 C1 C2 C3 C4 C5 F0 F1 F2 F3 F4 F5 R0 R1 R2 R3 R4 R5 G0 G1 G2 G3 G4 G5 KM KR BW HJ kc E HI
    obtain ⟨k, v, hk', rfl, v0, v1, hgo, hI, hC⟩ := hrel
    have HG := Lib.hid hgo
    have HI := Lib.hid hI
    have HC := Lib.hid hC
    have KM := Lib.hid hI.1; have KR := Lib.hid hI.2.1; have BW := Lib.hid hI.2.2; have C0 := blk_cell hI.1 0; have C1 := blk_cell hI.1 1; have C2 := blk_cell hI.1 2; have C3 := blk_cell hI.1 3; have C4 := blk_cell hI.1 4; have C5 := blk_cell hI.1 5; have F0 := blk_frozen hI.1 0; have F1 := blk_frozen hI.1 1; have F2 := blk_frozen hI.1 2; have F3 := blk_frozen hI.1 3; have F4 := blk_frozen hI.1 4; have F5 := blk_frozen hI.1 5; have R0 := blk_cell hI.2.1 0; have R1 := blk_cell hI.2.1 1; have R2 := blk_cell hI.2.1 2; have R3 := blk_cell hI.2.1 3; have R4 := blk_cell hI.2.1 4; have R5 := blk_cell hI.2.1 5; have G0 := blk_frozen hI.2.1 0; have G1 := blk_frozen hI.2.1 1; have G2 := blk_frozen hI.2.1 2; have G3 := blk_frozen hI.2.1 3; have G4 := blk_frozen hI.2.1 4; have G5 := blk_frozen hI.2.1 5
    clear hgo hC hI
    by_cases hlk : k < n
    · obtain ⟨y, hy⟩ : ∃ y, bt e k = y := ⟨_, rfl⟩
      have Cy : wr.cell? ⟨W3.heap.size, k, none⟩ = some (.int .u8 y) := hy ▸ HC.out k hlk
      have hb := hdig.out k hlk
      rw [hy] at hb
      obtain ⟨y0, y1⟩ := hb
      have HM := Lib.hid (itemGo_more HG.out hlk)
      have HY := Lib.hid hy
      clear hy
      have f1 : decide ((k : Int) < (n : Int)) = true := decide_eq_true (by omega)
      have f2 : decide (k < n) = true := decide_eq_true hlk
      have hp1 : (10 ^ k : Nat) ≤ 10 ^ 8 := Nat.pow_le_pow_right (by omega) (by omega)
      have v2 : v ≤ 99999999 := by
        have h8 : (10 ^ 8 : Nat) = 100000000 := by decide
        omega
      have V1 := Lib.hid v1
      clear v1 hp1
      go_wp2
      go_roundw
      case rel => exact ⟨k + 1, 10 * v + (y - 48), hlk, by go_num, by omega, by have := V1.out; rw [Nat.pow_succ]; omega, by have := HM.out; rwa [HY.out] at this, HI.out.put 1 _ (by simp), fun j hj => by
        have := HC.out j hj
        simpa [World.cell?, World.setCell, Array.getElem?_modify, show w.heap.size + 1 ≠ W3.heap.size by omega] using this⟩
      case measure => simp [intOf]; omega
    · have HN := Lib.hid (itemGo_end HG.out hlk)
      have f1 : decide ((k : Int) < (n : Int)) = false := decide_eq_false (by omega)
      have f2 : decide (k < n) = false := decide_eq_false hlk
      clear v0 v1
      go_wp2_with (first | (go_at_call 29; refine (c7.out _).mono ?_; rintro e W5 ⟨rfl, hd5⟩; clear C0 C1 C2 C3 C4 C5 F0 F1 F2 F3 F4 F5 R0 R1 R2 R3 R4 R5 G0 G1 G2 G3 G4 G5 KM KR BW; have hI : ItemM w #[.int .u8 d, .int .i64 v, .int .i64 ((a : Int) + (n : Int) + 1), .int .i64 0, .int .i64 0, .int .i64 0] W5 := ((HI.out.put 0 _ rfl).put 2 _ rfl).drawn hd5; clear hd5 HI; have HI := Lib.hid hI; have KM := Lib.hid hI.1; have KR := Lib.hid hI.2.1; have BW := Lib.hid hI.2.2; have C0 := blk_cell hI.1 0; have C1 := blk_cell hI.1 1; have C2 := blk_cell hI.1 2; have C3 := blk_cell hI.1 3; have C4 := blk_cell hI.1 4; have C5 := blk_cell hI.1 5; have F0 := blk_frozen hI.1 0; have F1 := blk_frozen hI.1 1; have F2 := blk_frozen hI.1 2; have F3 := blk_frozen hI.1 3; have F4 := blk_frozen hI.1 4; have F5 := blk_frozen hI.1 5; have R0 := blk_cell hI.2.1 0; have R1 := blk_cell hI.2.1 1; have R2 := blk_cell hI.2.1 2; have R3 := blk_cell hI.2.1 3; have R4 := blk_cell hI.2.1 4; have R5 := blk_cell hI.2.1 5; have G0 := blk_frozen hI.2.1 0; have G1 := blk_frozen hI.2.1 1; have G2 := blk_frozen hI.2.1 2; have G3 := blk_frozen hI.2.1 3; have G4 := blk_frozen hI.2.1 4; have G5 := blk_frozen hI.2.1 5; clear hI))
      refine bodyPost_ret (results_ct rfl _ _ (w.heap.size) 23 #[.int .u8 0, .int .i64 0, .int .i64 0, .int .i64 0, .int .i64 0, .int .i64 0] (0, 0) _ rfl ?hk Tryd.underlying23 rfl (by kernel_rfl)) rfl ⟨rfl, ?_⟩
      case hk => exact rule_puts KR.out ..
      · with_reducible repeat (first | exact BW.out | apply below_alloc | apply pw_below_drewN | apply below_drew1 | refine below_set ?_ (Nat.le_refl _) | refine below_set ?_ (show w.heap.size ≤ w.heap.size + 1 by omega))
set_option maxHeartbeats 2000000 in
set_option maxRecDepth 100000 in
theorem item_yes41 (a0 : ByteArray) (a : Nat) (s : ByteArray) (c : Int) (n : Nat) (d : Int) (l : Int) (w : World) (hx : mdmark_ahead.f a0 a = some (s, true)) (hlt : a < s.size) (hs : s.size ≤ 140737488355328) (hcc : bt s a = c) (hc : ¬ 0 ≤ Lib.indexByte [45, 43, 42] c.toNat.toUInt8) (hnn : itemLen s a = n) (h1 : 1 ≤ n) (h9 : n ≤ 9) (hk : a + n < s.size) (hdd : bt s ((a + n : Nat) : Int) = d) (hds : d = 41) (hp : mdmark_parted.f s ((a + n + 1 : Nat) : Int) = some true) (hl : mdmark_last.f s ((a + n + 1 : Nat) : Int) = some l) :
    Calls Tryd.prog 23 #[.string a0, .int .i64 a] w fun e w' => e = .returned (.tuple #[.agg #[.int .u8 (d), .int .i64 (itemGo (s.extract a (a + n)) n 0 0), .int .i64 ((a + n + 1 : Nat)), .int .i64 0, .int .i64 0, .int .i64 (l)], .bool true]) ∧ Below w.heap.size w w' := by
  have c1 := Lib.hid (fun W => mdmark_ahead.calls a0 a s true W hx)
  have c5 := Lib.hid (fun W => strings_IndexByte.calls ⟨#[45, 43, 42]⟩ c _ W rfl)
  change Hid (∀ W, Calls Tryd.prog 40 _ W fun e w' => e = .returned (.int .i64 (Lib.indexByte [45, 43, 42] c.toNat.toUInt8)) ∧ Drawn0 W w') at c5
  have hu := Tryd.underlying23
  have E : ((s[a]'hlt).toNat : Int) = c := by rw [← hcc]; simpa using bt_at s a (by omega)
  have hi' : decide (Lib.indexByte [45, 43, 42] c.toNat.toUInt8 < 0) = true := decide_eq_true (by omega)
  generalize Lib.indexByte [45, 43, 42] c.toNat.toUInt8 = ix at c5 hi'
  have c4 : Hid (∀ W, Calls Tryd.prog 27 _ W fun e w' => e = .returned (.int .i64 ((itemLen s a : Nat) : Int)) ∧ Drawn0 W w') := Lib.hid (fun W => row_digit s a W hs (by omega))
  rw [hnn] at c4
  have han : a + n ≤ s.size := by
    have h1 := (stretch_le (p := fun i => isDigit (bt s i)) (m := s.size - a) (k := a))
    unfold itemLen far at hnn
    omega
  clear hc
  have d1 : decide ((n : Int) < 1) = false := decide_eq_false (by omega)
  have d2 : decide (9 < (n : Int)) = false := decide_eq_false (by omega)
  have e4 : ((a : Int) + (n : Int) == (s.size : Int)) = false := beq_eq_false_iff_ne.2 (by omega)
  have E2 : ((s[a + n]'hk).toNat : Int) = d := by rw [← hdd]; exact bt_nat s (a + n) hk
  have e5 : (d != 46) = true := bne_iff_ne.2 (by omega)
  have e6 : (d != 41) = false := bne_eq_false_iff_eq.2 hds
  have ec : ((a + n + 1 : Nat) : Int) = (a : Int) + (n : Int) + 1 := by omega
  rw [ec] at hp hl
  have c7 := Lib.hid (fun W => mdmark_parted.calls s ((a : Int) + (n : Int) + 1) _ W hp)
  have c8 := Lib.hid (fun W => mdmark_last.calls s ((a : Int) + (n : Int) + 1) _ W hl)
  clear hl
  have hz : (s.extract a (a + n)).size = n := by rw [ByteArray.size_extract]; omega
  have hdig : Hid (∀ k : Nat, k < n → 48 ≤ bt (s.extract a (a + n)) k ∧ bt (s.extract a (a + n)) k ≤ 57) := Lib.hid (fun k hk' => by have := isDigit_at s a k (by omega) (by omega); rwa [hnn] at this)
  have i0 : (0 : Int) ≤ (a : Int) := by omega
  have i2 : (a : Int) ≤ (a : Int) + (n : Int) := by omega
  have i3 : (a : Int) + (n : Int) ≤ (s.size : Int) := by omega
  generalize hR : itemGo (s.extract a (a + n)) n 0 0 = R
  generalize he : s.extract a (a + n) = e at hz hR hdig
  have kc := fun (W : World) => Lib.run_convert_string_bytes (P := Tryd.prog) W 9 32 5 e Tryd.underlying9 Tryd.underlying32 Tryd.underlying5
  have HR := Lib.hid hR
  clear hR hp hdd hds hnn
  go_enter Tryd.func23, Tryd.ntmps23
  go_wp2_with (first | (go_at_call 26; refine (c1.out _).mono ?_; rintro e W1 ⟨rfl, hd⟩; obtain ⟨k1, z1, b1⟩ := rule_blk hd; clear hd; have hI := item_two (ds := #[.int .u8 c, .int .i64 0, .int .i64 ((a : Int) + 1), .int .i64 0, .int .i64 0, .int .i64 0]) k1 z1 b1; have HI : Hid (ItemM w #[.int .u8 c, .int .i64 0, .int .i64 ((a : Int) + 1), .int .i64 0, .int .i64 0, .int .i64 0] _) := Lib.hid hI; clear hI; have hI := HI.out; have KM := Lib.hid hI.1; have KR := Lib.hid hI.2.1; have BW := Lib.hid hI.2.2; have C0 := blk_cell hI.1 0; have C1 := blk_cell hI.1 1; have C2 := blk_cell hI.1 2; have C3 := blk_cell hI.1 3; have C4 := blk_cell hI.1 4; have C5 := blk_cell hI.1 5; have F0 := blk_frozen hI.1 0; have F1 := blk_frozen hI.1 1; have F2 := blk_frozen hI.1 2; have F3 := blk_frozen hI.1 3; have F4 := blk_frozen hI.1 4; have F5 := blk_frozen hI.1 5; have R0 := blk_cell hI.2.1 0; have R1 := blk_cell hI.2.1 1; have R2 := blk_cell hI.2.1 2; have R3 := blk_cell hI.2.1 3; have R4 := blk_cell hI.2.1 4; have R5 := blk_cell hI.2.1 5; have G0 := blk_frozen hI.2.1 0; have G1 := blk_frozen hI.2.1 1; have G2 := blk_frozen hI.2.1 2; have G3 := blk_frozen hI.2.1 3; have G4 := blk_frozen hI.2.1 4; have G5 := blk_frozen hI.2.1 5; clear k1 b1 hI) | (go_at_call 40; refine (c5.out _).mono ?_; rintro e W2 ⟨rfl, hd2⟩; clear C0 C1 C2 C3 C4 C5 F0 F1 F2 F3 F4 F5 R0 R1 R2 R3 R4 R5 G0 G1 G2 G3 G4 G5 KM KR BW; have hI := HI.out.drawn hd2; clear hd2 HI; have HI := Lib.hid hI; have KM := Lib.hid hI.1; have KR := Lib.hid hI.2.1; have BW := Lib.hid hI.2.2; have C0 := blk_cell hI.1 0; have C1 := blk_cell hI.1 1; have C2 := blk_cell hI.1 2; have C3 := blk_cell hI.1 3; have C4 := blk_cell hI.1 4; have C5 := blk_cell hI.1 5; have F0 := blk_frozen hI.1 0; have F1 := blk_frozen hI.1 1; have F2 := blk_frozen hI.1 2; have F3 := blk_frozen hI.1 3; have F4 := blk_frozen hI.1 4; have F5 := blk_frozen hI.1 5; have R0 := blk_cell hI.2.1 0; have R1 := blk_cell hI.2.1 1; have R2 := blk_cell hI.2.1 2; have R3 := blk_cell hI.2.1 3; have R4 := blk_cell hI.2.1 4; have R5 := blk_cell hI.2.1 5; have G0 := blk_frozen hI.2.1 0; have G1 := blk_frozen hI.2.1 1; have G2 := blk_frozen hI.2.1 2; have G3 := blk_frozen hI.2.1 3; have G4 := blk_frozen hI.2.1 4; have G5 := blk_frozen hI.2.1 5; clear hI) | (go_at_call 27; refine (c4.out _).mono ?_; rintro e W3 ⟨rfl, hd3⟩; clear C0 C1 C2 C3 C4 C5 F0 F1 F2 F3 F4 F5 R0 R1 R2 R3 R4 R5 G0 G1 G2 G3 G4 G5 KM KR BW; have hI := HI.out.drawn hd3; clear hd3 HI; have HI := Lib.hid hI; have KM := Lib.hid hI.1; have KR := Lib.hid hI.2.1; have BW := Lib.hid hI.2.2; have C0 := blk_cell hI.1 0; have C1 := blk_cell hI.1 1; have C2 := blk_cell hI.1 2; have C3 := blk_cell hI.1 3; have C4 := blk_cell hI.1 4; have C5 := blk_cell hI.1 5; have F0 := blk_frozen hI.1 0; have F1 := blk_frozen hI.1 1; have F2 := blk_frozen hI.1 2; have F3 := blk_frozen hI.1 3; have F4 := blk_frozen hI.1 4; have F5 := blk_frozen hI.1 5; have R0 := blk_cell hI.2.1 0; have R1 := blk_cell hI.2.1 1; have R2 := blk_cell hI.2.1 2; have R3 := blk_cell hI.2.1 3; have R4 := blk_cell hI.2.1 4; have R5 := blk_cell hI.2.1 5; have G0 := blk_frozen hI.2.1 0; have G1 := blk_frozen hI.2.1 1; have G2 := blk_frozen hI.2.1 2; have G3 := blk_frozen hI.2.1 3; have G4 := blk_frozen hI.2.1 4; have G5 := blk_frozen hI.2.1 5; clear hI; have hJ := item_conv (s := e) HI.out; have HJ := Lib.hid hJ; clear hJ; have zz := blk_lt HI.out.1))
  go_loopw [73] (fun i wr => ItemL w e c ((a : Int) + 1) n W3.heap.size R i wr) (fun i _ => n - (intOf i).toNat)
  case atStart => exact ⟨0, 0, Nat.zero_le _, rfl, by omega, by omega, HR.out, HJ.out.1, fun j hj => HJ.out.2 j (by rw [hz]; exact hj)⟩
  case round =>
    clear C0 C1 C2 C3 C4 C5 F0 F1 F2 F3 F4 F5 R0 R1 R2 R3 R4 R5 G0 G1 G2 G3 G4 G5 KM KR BW HJ kc E HI
    obtain ⟨k, v, hk', rfl, v0, v1, hgo, hI, hC⟩ := hrel
    have HG := Lib.hid hgo
    have HI := Lib.hid hI
    have HC := Lib.hid hC
    have KM := Lib.hid hI.1; have KR := Lib.hid hI.2.1; have BW := Lib.hid hI.2.2; have C0 := blk_cell hI.1 0; have C1 := blk_cell hI.1 1; have C2 := blk_cell hI.1 2; have C3 := blk_cell hI.1 3; have C4 := blk_cell hI.1 4; have C5 := blk_cell hI.1 5; have F0 := blk_frozen hI.1 0; have F1 := blk_frozen hI.1 1; have F2 := blk_frozen hI.1 2; have F3 := blk_frozen hI.1 3; have F4 := blk_frozen hI.1 4; have F5 := blk_frozen hI.1 5; have R0 := blk_cell hI.2.1 0; have R1 := blk_cell hI.2.1 1; have R2 := blk_cell hI.2.1 2; have R3 := blk_cell hI.2.1 3; have R4 := blk_cell hI.2.1 4; have R5 := blk_cell hI.2.1 5; have G0 := blk_frozen hI.2.1 0; have G1 := blk_frozen hI.2.1 1; have G2 := blk_frozen hI.2.1 2; have G3 := blk_frozen hI.2.1 3; have G4 := blk_frozen hI.2.1 4; have G5 := blk_frozen hI.2.1 5
    clear hgo hC hI
    by_cases hlk : k < n
    · obtain ⟨y, hy⟩ : ∃ y, bt e k = y := ⟨_, rfl⟩
      have Cy : wr.cell? ⟨W3.heap.size, k, none⟩ = some (.int .u8 y) := hy ▸ HC.out k hlk
      have hb := hdig.out k hlk
      rw [hy] at hb
      obtain ⟨y0, y1⟩ := hb
      have HM := Lib.hid (itemGo_more HG.out hlk)
      have HY := Lib.hid hy
      clear hy
      have f1 : decide ((k : Int) < (n : Int)) = true := decide_eq_true (by omega)
      have f2 : decide (k < n) = true := decide_eq_true hlk
      have hp1 : (10 ^ k : Nat) ≤ 10 ^ 8 := Nat.pow_le_pow_right (by omega) (by omega)
      have v2 : v ≤ 99999999 := by
        have h8 : (10 ^ 8 : Nat) = 100000000 := by decide
        omega
      have V1 := Lib.hid v1
      clear v1 hp1
      go_wp2
      go_roundw
      case rel => exact ⟨k + 1, 10 * v + (y - 48), hlk, by go_num, by omega, by have := V1.out; rw [Nat.pow_succ]; omega, by have := HM.out; rwa [HY.out] at this, HI.out.put 1 _ (by simp), fun j hj => by
        have := HC.out j hj
        simpa [World.cell?, World.setCell, Array.getElem?_modify, show w.heap.size + 1 ≠ W3.heap.size by omega] using this⟩
      case measure => simp [intOf]; omega
    · have HN := Lib.hid (itemGo_end HG.out hlk)
      have f1 : decide ((k : Int) < (n : Int)) = false := decide_eq_false (by omega)
      have f2 : decide (k < n) = false := decide_eq_false hlk
      clear v0 v1
      go_wp2_with (first | (go_at_call 29; refine (c7.out _).mono ?_; rintro e W5 ⟨rfl, hd5⟩; clear C0 C1 C2 C3 C4 C5 F0 F1 F2 F3 F4 F5 R0 R1 R2 R3 R4 R5 G0 G1 G2 G3 G4 G5 KM KR BW; have hI : ItemM w #[.int .u8 d, .int .i64 v, .int .i64 ((a : Int) + (n : Int) + 1), .int .i64 0, .int .i64 0, .int .i64 0] W5 := ((HI.out.put 0 _ rfl).put 2 _ rfl).drawn hd5; clear hd5 HI; have HI := Lib.hid hI; have KM := Lib.hid hI.1; have KR := Lib.hid hI.2.1; have BW := Lib.hid hI.2.2; have C0 := blk_cell hI.1 0; have C1 := blk_cell hI.1 1; have C2 := blk_cell hI.1 2; have C3 := blk_cell hI.1 3; have C4 := blk_cell hI.1 4; have C5 := blk_cell hI.1 5; have F0 := blk_frozen hI.1 0; have F1 := blk_frozen hI.1 1; have F2 := blk_frozen hI.1 2; have F3 := blk_frozen hI.1 3; have F4 := blk_frozen hI.1 4; have F5 := blk_frozen hI.1 5; have R0 := blk_cell hI.2.1 0; have R1 := blk_cell hI.2.1 1; have R2 := blk_cell hI.2.1 2; have R3 := blk_cell hI.2.1 3; have R4 := blk_cell hI.2.1 4; have R5 := blk_cell hI.2.1 5; have G0 := blk_frozen hI.2.1 0; have G1 := blk_frozen hI.2.1 1; have G2 := blk_frozen hI.2.1 2; have G3 := blk_frozen hI.2.1 3; have G4 := blk_frozen hI.2.1 4; have G5 := blk_frozen hI.2.1 5; clear hI) | (go_at_call 30; refine (c8.out _).mono ?_; rintro e W6 ⟨rfl, hb6⟩; clear C0 C1 C2 C3 C4 C5 F0 F1 F2 F3 F4 F5 R0 R1 R2 R3 R4 R5 G0 G1 G2 G3 G4 G5 KM KR BW; have hI := HI.out.below hb6; clear hb6 HI; have HI := Lib.hid hI; have KM := Lib.hid hI.1; have KR := Lib.hid hI.2.1; have BW := Lib.hid hI.2.2; have C0 := blk_cell hI.1 0; have C1 := blk_cell hI.1 1; have C2 := blk_cell hI.1 2; have C3 := blk_cell hI.1 3; have C4 := blk_cell hI.1 4; have C5 := blk_cell hI.1 5; have F0 := blk_frozen hI.1 0; have F1 := blk_frozen hI.1 1; have F2 := blk_frozen hI.1 2; have F3 := blk_frozen hI.1 3; have F4 := blk_frozen hI.1 4; have F5 := blk_frozen hI.1 5; have R0 := blk_cell hI.2.1 0; have R1 := blk_cell hI.2.1 1; have R2 := blk_cell hI.2.1 2; have R3 := blk_cell hI.2.1 3; have R4 := blk_cell hI.2.1 4; have R5 := blk_cell hI.2.1 5; have G0 := blk_frozen hI.2.1 0; have G1 := blk_frozen hI.2.1 1; have G2 := blk_frozen hI.2.1 2; have G3 := blk_frozen hI.2.1 3; have G4 := blk_frozen hI.2.1 4; have G5 := blk_frozen hI.2.1 5; clear hI))
      refine bodyPost_ret (results_ct rfl _ _ (w.heap.size) 23 #[.int .u8 (d), .int .i64 (v), .int .i64 (((a : Int) + (n : Int) + 1)), .int .i64 0, .int .i64 0, .int .i64 (l)] (0, 0) _ rfl ?hk Tryd.underlying23 rfl (by kernel_rfl)) rfl ⟨by rw [← HN.out, ec]; rfl, ?_⟩
      case hk => exact rule_puts (blk_far KR.out (show w.heap.size ≠ w.heap.size + 1 by omega) _) ..
      · with_reducible repeat (first | exact BW.out | apply below_alloc | apply pw_below_drewN | apply below_drew1 | refine below_set ?_ (Nat.le_refl _) | refine below_set ?_ (show w.heap.size ≤ w.heap.size + 1 by omega))
theorem mdmark_Item.calls (a0 : ByteArray) (a1 : Int) (r1 : Int) (r2 : Int) (r3 : Int) (r4 : Int) (r5 : Int) (r6 : Int) (r7 : Bool) (w : World) (h : mdmark_Item.f a0 a1 = some (r1, r2, r3, r4, r5, r6, r7)) :
    Calls Tryd.prog 23 #[.string a0, .int .i64 a1] w fun e w' => e = .returned (.tuple #[.agg #[.int .u8 r1, .int .i64 r2, .int .i64 r3, .int .i64 r4, .int .i64 r5, .int .i64 r6], .bool r7]) ∧ Below w.heap.size w w' := by
  unfold mdmark_Item.f at h
  obtain ⟨⟨s, ok⟩, hx, h⟩ := Option.bind_eq_some_iff.mp h
  cases ok with
  | false =>
    have h' : noMark = (r1, r2, r3, r4, r5, r6, r7) := by simpa using h
    simp only [noMark, Prod.mk.injEq] at h'
    obtain ⟨rfl, rfl, rfl, rfl, rfl, rfl, rfl⟩ := h'
    exact item_none a0 a1 s w hx
  | true =>
    by_cases hb : 0 ≤ a1 ∧ a1 < (s.size : Int) ∧ s.size ≤ 140737488355328
    rotate_left
    · simp [hb] at h
    obtain ⟨h0, hlt, hs⟩ := hb
    obtain ⟨a, rfl⟩ := Int.eq_ofNat_of_zero_le h0
    have hlt' : a < s.size := by omega
    simp only [h0, hlt, hs, and_self, if_true, Int.toNat_natCast] at h
    by_cases hc : 0 ≤ Lib.indexByte [45, 43, 42] (bt s a).toNat.toUInt8
    · rw [if_pos hc] at h
      unfold itemTail at h
      obtain ⟨p, hp, h⟩ := Option.bind_eq_some_iff.mp h
      cases p with
      | true =>
        rw [if_pos rfl] at h
        obtain ⟨l, hl, h⟩ := Option.bind_eq_some_iff.mp h
        simp only [Option.some.injEq, Prod.mk.injEq] at h
        obtain ⟨rfl, rfl, rfl, rfl, rfl, rfl, rfl⟩ := h
        exact item_sign_yes a0 a s _ l w hx hlt' hs rfl hc hp hl
      | false =>
        rw [if_neg (by simp)] at h
        simp only [noMark, Option.some.injEq, Prod.mk.injEq] at h
        obtain ⟨rfl, rfl, rfl, rfl, rfl, rfl, rfl⟩ := h
        exact item_sign_no a0 a s _ w hx hlt' hs rfl hc hp
    · rw [if_neg hc] at h
      have han : a + itemLen s a ≤ s.size := by
        have h1 := (stretch_le (p := fun i => isDigit (bt s i)) (m := s.size - a) (k := a))
        unfold itemLen far
        omega
      by_cases hbad : itemLen s a < 1 ∨ 9 < itemLen s a ∨ a + itemLen s a = s.size ∨ (bt s ((a + itemLen s a : Nat) : Int) ≠ 46 ∧ bt s ((a + itemLen s a : Nat) : Int) ≠ 41)
      · rw [if_pos hbad] at h
        simp only [noMark, Option.some.injEq, Prod.mk.injEq] at h
        obtain ⟨rfl, rfl, rfl, rfl, rfl, rfl, rfl⟩ := h
        by_cases k1 : itemLen s a < 1
        · exact item_few a0 a s _ _ w hx hlt' hs rfl hc rfl k1
        by_cases k2 : 9 < itemLen s a
        · exact item_many a0 a s _ _ w hx hlt' hs rfl hc rfl k2
        by_cases k3 : a + itemLen s a = s.size
        · exact item_end a0 a s _ _ w hx hlt' hs rfl hc rfl (by omega) (by omega) k3
        have k4 : bt s ((a + itemLen s a : Nat) : Int) ≠ 46 ∧ bt s ((a + itemLen s a : Nat) : Int) ≠ 41 := by
          rcases hbad with k | k | k | k
          · exact absurd k k1
          · exact absurd k k2
          · exact absurd k k3
          · exact k
        exact item_other a0 a s _ _ w hx hlt' hs rfl hc rfl (by omega) (by omega) (by omega) k4.1 k4.2
      · rw [if_neg hbad] at h
        have k0 : 1 ≤ itemLen s a ∧ itemLen s a ≤ 9 ∧ a + itemLen s a < s.size := by omega
        have k4 : bt s ((a + itemLen s a : Nat) : Int) = 46 ∨ bt s ((a + itemLen s a : Nat) : Int) = 41 := by
          by_cases e : bt s ((a + itemLen s a : Nat) : Int) = 46
          · exact .inl e
          · by_cases e2 : bt s ((a + itemLen s a : Nat) : Int) = 41
            · exact .inr e2
            · exact absurd (.inr (.inr (.inr ⟨e, e2⟩))) hbad
        unfold itemTail at h
        obtain ⟨p, hp, h⟩ := Option.bind_eq_some_iff.mp h
        cases p with
        | true =>
          rw [if_pos rfl] at h
          obtain ⟨l, hl, h⟩ := Option.bind_eq_some_iff.mp h
          simp only [Option.some.injEq, Prod.mk.injEq] at h
          obtain ⟨rfl, rfl, rfl, rfl, rfl, rfl, rfl⟩ := h
          rcases k4 with e | e
          · exact item_yes46 a0 a s _ _ _ l w hx hlt' hs rfl hc rfl k0.1 k0.2.1 k0.2.2 rfl e hp hl
          · exact item_yes41 a0 a s _ _ _ l w hx hlt' hs rfl hc rfl k0.1 k0.2.1 k0.2.2 rfl e hp hl
        | false =>
          rw [if_neg (by simp)] at h
          simp only [noMark, Option.some.injEq, Prod.mk.injEq] at h
          obtain ⟨rfl, rfl, rfl, rfl, rfl, rfl, rfl⟩ := h
          rcases k4 with e | e
          · exact item_no46 a0 a s _ _ _ w hx hlt' hs rfl hc rfl k0.1 k0.2.1 k0.2.2 rfl e hp
          · exact item_no41 a0 a s _ _ _ w hx hlt' hs rfl hc rfl k0.1 k0.2.1 k0.2.2 rfl e hp
end Go.Proofs.YtgeddemohcbojaaDoor.P
