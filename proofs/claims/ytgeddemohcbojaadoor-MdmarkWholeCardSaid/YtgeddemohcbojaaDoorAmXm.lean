/- Texts joined: LibW, LibX, AmX. No conditions but those that each theorem names. -/
import Derived.Test.YtgeddemohcbojaaDoorLibC
import Derived.Test.YtgeddemohcbojaaDoorAmWb
namespace Go.Proofs.YtgeddemohcbojaaDoor.Pure
open Go.RowKit Go.Proofs.YtgeddemohcbojaaDoor.P Go.Proofs.YtgeddemohcbojaaDoorW.PrintWords Go.Proofs.YtgeddemohcbojaaDoorW.PrintLast
set_option linter.unusedVariables false
set_option linter.unusedSimpArgs false
theorem end_whole (line : ByteArray) (hno : ∀ i : Nat, i < line.size → bt line (i : Int) ≠ 10) : hd (line ++ ⟨#[32, 13, 10]⟩) = line ++ ⟨#[32]⟩ := by
  have h3 : (⟨#[32, 13, 10]⟩ : ByteArray).size = 3 := rfl
  have hs : (line ++ (⟨#[32, 13, 10]⟩ : ByteArray)).size = line.size + 3 := by rw [ByteArray.size_append, h3]
  have hb : ∀ i : Nat, i < line.size → bt (line ++ (⟨#[32, 13, 10]⟩ : ByteArray)) (i : Int) = bt line (i : Int) := fun i hi => bt_app1 _ _ i hi
  have hx : ∀ i : Nat, i < 3 → bt (line ++ (⟨#[32, 13, 10]⟩ : ByteArray)) ((line.size + i : Nat) : Int) = bt (⟨#[32, 13, 10]⟩ : ByteArray) (i : Int) := fun i hi => bt_app2 _ _ i (by rw [h3]; exact hi)
  have hf : fst (fun i => bt (line ++ (⟨#[32, 13, 10]⟩ : ByteArray)) (i : Int) == 10) (line ++ (⟨#[32, 13, 10]⟩ : ByteArray)).size 0 = some (line.size + 2) := by
    refine fst_eq (Nat.zero_le _) (by omega) (by rw [hx 2 (by omega)]; decide) fun k _ hk => ?_
    by_cases h : k < line.size
    · rw [hb k h]; simpa using hno k h
    · obtain ⟨j, rfl⟩ := Nat.exists_eq_add_of_le (Nat.le_of_not_lt h)
      have : j = 0 ∨ j = 1 := by omega
      rcases this with rfl | rfl
      · rw [hx 0 (by omega)]; decide
      · rw [hx 1 (by omega)]; decide
  have he : endN (line ++ (⟨#[32, 13, 10]⟩ : ByteArray)) = line.size + 1 := by
    unfold endN
    rw [hf]
    dsimp only
    rw [if_pos ⟨by omega, by rw [show line.size + 2 - 1 = line.size + 1 by omega, hx 1 (by omega)]; decide⟩]
    omega
  unfold hd
  rw [he]
  have h1 : (⟨#[32]⟩ : ByteArray).size = 1 := rfl
  have hz : ((line ++ (⟨#[32, 13, 10]⟩ : ByteArray)).extract 0 (line.size + 1)).size = line.size + 1 := by rw [size_ext _ _ _ (by omega)]; omega
  refine ext_bt (by rw [hz, ByteArray.size_append, h1]) fun i hi => ?_
  rw [hz] at hi
  rw [bt_ext _ _ _ _ (by omega) (by omega), Nat.zero_add]
  by_cases h : i < line.size
  · rw [hb i h, bt_app1 _ _ i h]
  · obtain rfl : i = line.size + 0 := by omega
    rw [hx 0 (by omega), bt_app2 _ _ 0 (by rw [h1]; omega)]
    decide
section
variable (line : ByteArray) (a n f e : Nat)
theorem sp_bt (i : Nat) (h : i < line.size) : bt (line ++ (⟨#[32]⟩ : ByteArray)) (i : Int) = bt line (i : Int) := bt_app1 _ _ i h
theorem sp_end : bt (line ++ (⟨#[32]⟩ : ByteArray)) ((line.size : Nat) : Int) = 32 := by
  have := bt_app2 line ⟨#[32]⟩ 0 (by decide)
  rw [Nat.add_zero] at this
  rw [this]; decide
theorem sp_size : (line ++ (⟨#[32]⟩ : ByteArray)).size = line.size + 1 := by rw [ByteArray.size_append]; rfl
theorem last_whole (b : Nat) (hb : b < line.size) (hlast : blankI (bt line ((line.size - 1 : Nat) : Int)) = false) : lastN (line ++ ⟨#[32]⟩) b = line.size := by
  unfold lastN
  refine back_eq (by omega) (by rw [sp_size]; omega) (fun k h1 h2 => ?_) (fun _ => ?_)
  · rw [sp_size] at h2
    obtain rfl : k = line.size := by omega
    rw [sp_end]; decide
  · rw [sp_bt line _ (by omega)]; exact hlast
theorem head_whole (hs : line.size ≤ 4000) (hno : ∀ i : Nat, i < line.size → bt line (i : Int) ≠ 10) (h1 : 1 ≤ n) (h6 : n ≤ 6) (hrow : ∀ k : Nat, a ≤ k → k < a + n → bt line (k : Int) = 35) (hb : a + n < f) (hfe : f < e) (heL : e ≤ line.size)
    (hblank : ∀ k : Nat, a + n ≤ k → k < f → blankI (bt line (k : Int)) = true) (hf : blankI (bt line (f : Int)) = false) (hlast : blankI (bt line ((line.size - 1 : Nat) : Int)) = false) (hend : hEnd (line ++ ⟨#[32]⟩) (a + n) = e) :
    ∃ k, mdmark_Head.f k (line ++ ⟨#[32, 13, 10]⟩) (a : Int) = some (0, (n : Int), ((a + n : Nat) : Int), (f : Int), (e : Int), (line.size : Int), true) := by
  have hz := sp_size line
  have h35 : bt (line ++ (⟨#[32]⟩ : ByteArray)) (a : Int) = 35 := by rw [sp_bt line a (by omega)]; exact hrow a (Nat.le_refl _) (by omega)
  have hbeh : behN (line ++ ⟨#[32]⟩) a = a + n := by
    unfold behN
    rw [h35]
    refine far_eq (by omega) (by omega) (fun k h2 h3 => ?_) (fun _ => ?_)
    · rw [sp_bt line k (by omega), hrow k h2 h3]; rfl
    · rw [sp_bt line _ (by omega)]
      have := hblank (a + n) (Nat.le_refl _) hb
      cases hc : (bt line ((a + n : Nat) : Int) == 35) with
      | false => rfl
      | true =>
        rw [beq_iff_eq.1 hc] at this
        exact absurd this (by decide)
  have hl := last_whole line (a + n) (by omega) hlast
  have hfr : hFrom (line ++ ⟨#[32]⟩) (a + n) e = f := by
    unfold hFrom
    refine far_eq (by omega) (by omega) (fun k h2 h3 => ?_) (fun _ => ?_)
    · rw [sp_bt line k (by omega)]; exact hblank k h2 h3
    · rw [sp_bt line f (by omega)]; exact hf
  have hp := head_p (line ++ ⟨#[32, 13, 10]⟩) (a : Int) (by rw [ByteArray.size_append, show (⟨#[32, 13, 10]⟩ : ByteArray).size = 3 from rfl]; omega)
  rw [end_whole line hno] at hp
  have hS : headS (line ++ ⟨#[32]⟩) (a : Int) = (0, (n : Int), ((a + n : Nat) : Int), (f : Int), (e : Int), (line.size : Int), true) := by
    unfold headS
    rw [Int.toNat_natCast, hbeh, hend, hfr, hl, if_pos ⟨by omega, by omega, h35, by omega, by rw [sp_bt line _ (by omega), hblank (a + n) (Nat.le_refl _) hb, Bool.or_true]⟩]
    rw [show a + n - a = n by omega]
  rw [hS] at hp
  exact Ev.rounds hp
theorem hEnd_open (b r : Nat) (hbr : b < r) (hre : r ≤ line.size) (hhs : ∀ k : Nat, r ≤ k → k < line.size → bt line (k : Int) = 35) (hne : bt line ((r - 1 : Nat) : Int) ≠ 35) (hnb : blankI (bt line ((r - 1 : Nat) : Int)) = false)
    (hlast : blankI (bt line ((line.size - 1 : Nat) : Int)) = false) : hEnd (line ++ ⟨#[32]⟩) b = line.size := by
  unfold hEnd
  rw [last_whole line b (by omega) hlast]
  dsimp only
  have h : back (fun i => bt (line ++ (⟨#[32]⟩ : ByteArray)) (i : Int) == 35) (line.size - b) b = r := by
    refine back_eq (by omega) (by omega) (fun k h1 h2 => ?_) (fun _ => ?_)
    · rw [sp_bt line k (by omega), hhs k h1 (by omega)]; rfl
    · rw [sp_bt line _ (by omega)]; exact beq_eq_false_iff_ne.2 hne
  rw [h, if_pos ⟨hbr, by rw [sp_bt line _ (by omega)]; exact hnb⟩]
theorem hEnd_shut (b : Nat) (hbe : b < e) (hL : e + 2 < line.size) (hhs : ∀ k : Nat, e + 2 ≤ k → k < line.size → bt line (k : Int) = 35) (h32 : bt line (e : Int) = 32) (h9 : bt line ((e + 1 : Nat) : Int) = 9) (hnb : blankI (bt line ((e - 1 : Nat) : Int)) = false) :
    hEnd (line ++ ⟨#[32]⟩) b = e := by
  have hlast : blankI (bt line ((line.size - 1 : Nat) : Int)) = false := by rw [hhs _ (by omega) (by omega)]; decide
  unfold hEnd
  rw [last_whole line b (by omega) hlast]
  dsimp only
  have h : back (fun i => bt (line ++ (⟨#[32]⟩ : ByteArray)) (i : Int) == 35) (line.size - b) b = e + 2 := by
    refine back_eq (by omega) (by omega) (fun k h1 h2 => ?_) (fun _ => ?_)
    · rw [sp_bt line k (by omega), hhs k h1 (by omega)]; rfl
    · rw [show e + 2 - 1 = e + 1 by omega, sp_bt line _ (by omega), h9]; decide
  rw [h, if_neg (fun h => by
    have := h.2
    rw [show e + 2 - 1 = e + 1 by omega, sp_bt line _ (by omega), h9] at this
    exact absurd this (by decide))]
  refine back_eq (by omega) (by omega) (fun k h1 h2 => ?_) (fun _ => ?_)
  · have : k = e ∨ k = e + 1 := by omega
    rcases this with rfl | rfl
    · rw [sp_bt line _ (by omega), h32]; decide
    · rw [sp_bt line _ (by omega), h9]; decide
  · rw [sp_bt line _ (by omega)]; exact hnb
end
/-- What is laid of a text: of what ends a line another byte in its place. -/
def laid (t : ByteArray) : ByteArray := ⟨(t.data.toList.map fun b => if b = 10 ∨ b = 13 then 46 else b).toArray⟩
theorem laid_size (t : ByteArray) : (laid t).size = t.size := by rw [← len_eq, ← len_eq]; simp [laid]
theorem laid_bt (t : ByteArray) (k : Nat) (h : k < t.size) : bt (laid t) (k : Int) = if bt t (k : Int) = 10 ∨ bt t (k : Int) = 13 then 46 else bt t (k : Int) := by
  have h1 : k < t.data.toList.length := by rw [len_eq]; exact h
  rw [bt_list t k h1, bt_list (laid t) k (by rw [len_eq, laid_size]; exact h)]
  simp only [laid, List.getElem_map]
  have h10 : (((t.data.toList[k]'h1).toNat : Int) = 10) ↔ t.data.toList[k]'h1 = 10 := ⟨fun e => UInt8.toNat_inj.1 (show (t.data.toList[k]'h1).toNat = 10 by omega), fun e => by rw [e]; rfl⟩
  have h13 : (((t.data.toList[k]'h1).toNat : Int) = 13) ↔ t.data.toList[k]'h1 = 13 := ⟨fun e => UInt8.toNat_inj.1 (show (t.data.toList[k]'h1).toNat = 13 by omega), fun e => by rw [e]; rfl⟩
  by_cases hc : t.data.toList[k]'h1 = 10 ∨ t.data.toList[k]'h1 = 13
  · rw [if_pos hc, if_pos (by rw [h10, h13]; exact hc)]; rfl
  · rw [if_neg hc, if_neg (by rw [h10, h13]; exact hc)]
end Go.Proofs.YtgeddemohcbojaaDoor.Pure
namespace Go.Proofs.YtgeddemohcbojaaDoor.Pure
open Go.RowKit Go.Proofs.YtgeddemohcbojaaDoor.P Go.Proofs.YtgeddemohcbojaaDoorW.PrintWords Go.Proofs.YtgeddemohcbojaaDoorW.PrintLast
set_option linter.unusedVariables false
set_option linter.unusedSimpArgs false
theorem hash6_bt : ∀ i : Fin 6, bt (⟨#[35, 35, 35, 35, 35, 35]⟩ : ByteArray) ((i.val : Nat) : Int) = 35 := by decide
theorem hash10_bt : ∀ i : Fin 10, bt (⟨#[35, 35, 35, 35, 35, 35, 35, 35, 35, 35]⟩ : ByteArray) ((i.val : Nat) : Int) = 35 := by decide
theorem h6_size (n : Nat) (h : n ≤ 6) : ((⟨#[35, 35, 35, 35, 35, 35]⟩ : ByteArray).extract (Int.toNat (0 : Int)) (Int.toNat (n : Int))).size = n := by
  rw [Int.toNat_natCast, size_ext _ _ _ (by show n ≤ 6; exact h)]
  exact Nat.sub_zero n
theorem h6_bt (n k : Nat) (h : n ≤ 6) (hk : k < n) : bt ((⟨#[35, 35, 35, 35, 35, 35]⟩ : ByteArray).extract (Int.toNat (0 : Int)) (Int.toNat (n : Int))) (k : Int) = 35 := by
  rw [Int.toNat_natCast, show Int.toNat (0 : Int) = 0 from rfl, bt_ext _ 0 n k (by show n ≤ 6; exact h) (by omega), Nat.zero_add]
  exact hash6_bt ⟨k, by omega⟩
theorem h10_size (n : Nat) (h : n ≤ 10) : ((⟨#[35, 35, 35, 35, 35, 35, 35, 35, 35, 35]⟩ : ByteArray).extract (Int.toNat (0 : Int)) (Int.toNat (n : Int))).size = n := by
  rw [Int.toNat_natCast, size_ext _ _ _ (by show n ≤ 10; exact h)]
  exact Nat.sub_zero n
theorem h10_bt (n k : Nat) (h : n ≤ 10) (hk : k < n) : bt ((⟨#[35, 35, 35, 35, 35, 35, 35, 35, 35, 35]⟩ : ByteArray).extract (Int.toNat (0 : Int)) (Int.toNat (n : Int))) (k : Int) = 35 := by
  rw [Int.toNat_natCast, show Int.toNat (0 : Int) = 0 from rfl, bt_ext _ 0 n k (by show n ≤ 10; exact h) (by omega), Nat.zero_add]
  exact hash10_bt ⟨k, by omega⟩
theorem app2 (s t : ByteArray) (i : Nat) (h1 : s.size ≤ i) (h2 : i < s.size + t.size) : bt (s ++ t) (i : Int) = bt t ((i - s.size : Nat) : Int) := by
  have := bt_app2 s t (i - s.size) (by omega)
  rwa [show s.size + (i - s.size) = i by omega] at this
/-- What the line begins with: what stands ahead, the row, two blanks. -/
structure Begun (x wd : ByteArray) (n : Nat) : Prop where
  size : wd.size = x.size + n + 2
  ahead : ∀ k : Nat, k < x.size → bt wd (k : Int) = bt x (k : Int)
  row : ∀ k : Nat, x.size ≤ k → k < x.size + n → bt wd (k : Int) = 35
  gap : ∀ k : Nat, x.size + n ≤ k → k < x.size + n + 2 → bt wd (k : Int) = 32
theorem begun (x wd : ByteArray) (n : Nat) (hn : n ≤ 6) (h : ((x ++ ((⟨#[35, 35, 35, 35, 35, 35]⟩ : ByteArray).extract (Int.toNat (0 : Int)) (Int.toNat (n : Int)))) ++ (⟨#[32, 32]⟩ : ByteArray)) = wd) : Begun x wd n := by
  subst h
  have z := h6_size n hn
  have z2 : (⟨#[32, 32]⟩ : ByteArray).size = 2 := rfl
  refine ⟨by rw [ByteArray.size_append, ByteArray.size_append, z, z2], fun k hk => ?_, fun k h1 h2 => ?_, fun k h1 h2 => ?_⟩
  · rw [bt_app1 _ _ k (by rw [ByteArray.size_append]; omega), bt_app1 _ _ k hk]
  · rw [bt_app1 _ _ k (by rw [ByteArray.size_append, z]; omega), app2 _ _ k h1 (by rw [z]; omega)]
    exact h6_bt n _ hn (by omega)
  · rw [app2 _ _ k (by rw [ByteArray.size_append, z]; omega) (by rw [ByteArray.size_append, z, z2]; omega), ByteArray.size_append, z]
    have : k - (x.size + n) = 0 ∨ k - (x.size + n) = 1 := by omega
    rcases this with h | h <;> rw [h] <;> decide
theorem shut_bt (s : ByteArray) (m : Nat) (hm : m ≤ 10) (line : ByteArray) (h : ((s ++ (⟨#[32, 9]⟩ : ByteArray)) ++ ((⟨#[35, 35, 35, 35, 35, 35, 35, 35, 35, 35]⟩ : ByteArray).extract (Int.toNat (0 : Int)) (Int.toNat (m : Int)))) = line) :
    line.size = s.size + 2 + m ∧ (∀ k : Nat, k < s.size → bt line (k : Int) = bt s (k : Int)) ∧ bt line ((s.size : Nat) : Int) = 32 ∧ bt line ((s.size + 1 : Nat) : Int) = 9 ∧ ∀ k : Nat, s.size + 2 ≤ k → k < line.size → bt line (k : Int) = 35 := by
  subst h
  have z := h10_size m hm
  have z2 : (⟨#[32, 9]⟩ : ByteArray).size = 2 := rfl
  have hz : ((s ++ (⟨#[32, 9]⟩ : ByteArray)) ++ ((⟨#[35, 35, 35, 35, 35, 35, 35, 35, 35, 35]⟩ : ByteArray).extract (Int.toNat (0 : Int)) (Int.toNat (m : Int)))).size = s.size + 2 + m := by rw [ByteArray.size_append, ByteArray.size_append, z, z2]
  refine ⟨hz, fun k hk => ?_, ?_, ?_, fun k h1 h2 => ?_⟩
  · rw [bt_app1 _ _ k (by rw [ByteArray.size_append]; omega), bt_app1 _ _ k hk]
  · rw [bt_app1 _ _ _ (by rw [ByteArray.size_append, z2]; omega), app2 _ _ _ (Nat.le_refl _) (by rw [z2]; omega), Nat.sub_self]
    decide
  · rw [bt_app1 _ _ _ (by rw [ByteArray.size_append, z2]; omega), app2 _ _ _ (by omega) (by rw [z2]; omega), show s.size + 1 - s.size = 1 by omega]
    decide
  · rw [hz] at h2
    rw [app2 _ _ k (by rw [ByteArray.size_append, z2]; omega) (by rw [ByteArray.size_append, z, z2]; omega), ByteArray.size_append, z2]
    exact h10_bt m _ hm (by omega)
end Go.Proofs.YtgeddemohcbojaaDoor.Pure
namespace Go.Proofs.YtgeddemohcbojaaDoor.Am
open Go Go.RowKit Go.Proofs.YtgeddemohcbojaaDoor.P Go.Proofs.YtgeddemohcbojaaDoorW.PrintWords Go.Proofs.YtgeddemohcbojaaDoorW.PrintLast Go.Proofs.YtgeddemohcbojaaDoorW.PrintMore
set_option linter.unusedVariables false
set_option linter.unusedSimpArgs false
theorem whole_u8 {x : Int} (h : (Lit.int .u8 x).wf = true) : 0 ≤ x ∧ x ≤ 255 := by
  simp only [Lit.wf, Bool.and_eq_true, decide_eq_true_eq] at h
  have h1 : IntKind.u8.min = 0 := by decide
  have h2 : IntKind.u8.max = 255 := by decide
  omega
theorem whole_no (a1 a3 wd : ByteArray) (n : Nat) (hb : Pure.Begun a3 wd n) (hno : ∀ k : Nat, k < a3.size → bt a3 (k : Int) ≠ 10) (k : Nat) (hk : k < (wd ++ Pure.laid a1).size) : bt (wd ++ Pure.laid a1) (k : Int) ≠ 10 := by
  rw [ByteArray.size_append, Pure.laid_size] at hk
  have hz := hb.size
  by_cases h1 : k < wd.size
  · rw [Pure.bt_app1 _ _ k h1]
    by_cases h2 : k < a3.size
    · rw [hb.ahead k h2]; exact hno k h2
    · by_cases h3 : k < a3.size + n
      · rw [hb.row k (by omega) h3]; decide
      · rw [hb.gap k (by omega) (by omega)]; decide
  · rw [Pure.app2 _ _ k (by omega) (by rw [Pure.laid_size]; omega), Pure.laid_bt a1 _ (by omega)]
    split
    · decide
    · rename_i h; exact fun e => h (.inl e)
theorem whole_blank_ne {x : Int} (h : Pure.blankI x = true) : x ≠ 35 := fun e => by rw [e] at h; exact absurd h (by decide)
theorem MdmarkWhole_walk (a0 : Int) (a1 : ByteArray) (a2 : Int) (a3 : ByteArray) (w0 : (Lit.int .u8 a0).wf = true) (w1 : a1.size ≤ 140737488351232) (w2 : (Lit.int .u8 a2).wf = true) (w3 : a3.size ≤ 140737488351232) (w : World) :
    Calls Tryd.prog 4 #[.int .u8 a0, .string a1, .int .u8 a2, .string a3] w fun e w' => e = .returned (.bool true) ∧ Below w.heap.size w w' := by
  have b0 := whole_u8 w0
  have b2 := whole_u8 w2
  by_cases h1 : a1.size ≤ 2000
  rotate_left
  · exact whole_long a0 a2 a1 a3 a1 a1 0 0 0 0 0 (by omega) w
  by_cases h3 : a3.size ≤ 200
  rotate_left
  · exact whole_longA a0 a2 a1 a3 a1 a1 0 0 0 0 0 h1 (by omega) w
  cases hlf : Pure.fst (fun i => bt a3 (i : Int) == 10) a3.size 0 with
  | some p =>
    obtain ⟨p1, p2, p3, p4⟩ := Pure.fst_some hlf
    exact whole_lf a0 a2 a1 a3 a1 a1 0 0 0 0 0 p h1 h3 (by omega) (by simpa using p3) (fun k hk => by have := p4 k (Nat.zero_le _) hk; simpa using this) w
  | none =>
    have hno : ∀ k : Nat, k < a3.size → bt a3 (k : Int) ≠ 10 := fun k hk => by have := Pure.fst_none hlf k (Nat.zero_le _) (by omega); simpa using this
    clear hlf
    obtain ⟨n, hn0⟩ : ∃ n : Nat, 1 + a0 % 6 = (n : Int) := ⟨(1 + a0 % 6).toNat, by omega⟩
    have hn1 : 1 ≤ n := by omega
    have hn6 : n ≤ 6 := by omega
    have hn : (IntKind.i64.wrap ((1 : Int) + (IntKind.i64.wrap (Int.tmod a0 (6 : Int))))) = (n : Int) := by rw [Int.tmod_eq_emod_of_nonneg b0.1, whole_w (x := a0 % 6) (by omega) (by omega), whole_w (by omega) (by omega)]; exact hn0
    obtain ⟨wd, hwd⟩ : ∃ wd, ((a3 ++ ((⟨#[35, 35, 35, 35, 35, 35]⟩ : ByteArray).extract (Int.toNat (0 : Int)) (Int.toNat (n : Int)))) ++ (⟨#[32, 32]⟩ : ByteArray)) = wd := ⟨_, rfl⟩
    have hb := Pure.begun a3 wd n hn6 hwd
    have hz := hb.size
    have hw2 : wd.size ≤ 300 := by omega
    have hlz := Pure.laid_size a1
    obtain ⟨F, hF⟩ : ∃ F, wd ++ Pure.laid a1 = F := ⟨_, rfl⟩
    have hFs : F.size = wd.size + a1.size := by rw [← hF, ByteArray.size_append, hlz]
    have hF0 : F.extract 0 wd.size = wd := by
      refine Pure.ext_bt (by rw [Pure.size_ext _ _ _ (by omega)]; omega) fun i hi => ?_
      rw [Pure.size_ext _ _ _ (by omega)] at hi
      rw [Pure.bt_ext _ _ _ _ (by omega) (by omega), Nat.zero_add, ← hF, Pure.bt_app1 _ _ i (by omega)]
    have hFw : ∀ k : Nat, k < wd.size → bt F (k : Int) = bt wd (k : Int) := fun k hk => by rw [← hF, Pure.bt_app1 _ _ k hk]
    have hFb : ∀ k : Nat, k < a1.size → bt F ((wd.size + k : Nat) : Int) = if bt a1 (k : Int) = 10 ∨ bt a1 (k : Int) = 13 then 46 else bt a1 (k : Int) := fun k hk => by
      rw [← hF, Pure.bt_app2 _ _ k (by omega), Pure.laid_bt a1 k hk]
    have hFno : ∀ k : Nat, k < F.size → bt F (k : Int) ≠ 10 := by rw [← hF]; exact whole_no a1 a3 wd n hb hno
    obtain ⟨e, he⟩ : ∃ e, Pure.back (fun i => Pure.blankI (bt F (i : Int))) (F.size - wd.size) wd.size = e := ⟨_, rfl⟩
    have he' := Pure.back_prop (q := fun i => Pure.blankI (bt F (i : Int))) (F.size - wd.size) wd.size
    rw [he] at he'
    obtain ⟨hwe, e2, e3, hlast⟩ := he'
    have heF : e ≤ F.size := by omega
    have hbe : ∀ k : Nat, e ≤ k → k < F.size → Pure.blankI (bt F (k : Int)) = true := fun k k1 k2 => e3 k k1 (by omega)
    obtain ⟨f, hf⟩ : ∃ f, Pure.far (fun i => Pure.blankI (bt F (i : Int))) (e - wd.size) wd.size = f := ⟨_, rfl⟩
    have hf' := Pure.far_prop (q := fun i => Pure.blankI (bt F (i : Int))) (e - wd.size) wd.size
    rw [hf] at hf'
    obtain ⟨hwf, f2, hbf, f4⟩ := hf'
    have hfe : f ≤ e := by omega
    have hfst : f < e → Pure.blankI (bt F (f : Int)) = false := fun h => f4 (by omega)
    obtain ⟨r, hr⟩ : ∃ r, Pure.back (fun i => bt F (i : Int) == 35) (e - f) f = r := ⟨_, rfl⟩
    have hr' := Pure.back_prop (q := fun i => bt F (i : Int) == 35) (e - f) f
    rw [hr] at hr'
    obtain ⟨hfr, r2, r3, r4⟩ := hr'
    have hre : r ≤ e := by omega
    have hhs : ∀ k : Nat, r ≤ k → k < e → bt F (k : Int) = 35 := fun k k1 k2 => by have := r3 k k1 (by omega); simpa using this
    have hne : f < r → bt F ((r - 1 : Nat) : Int) ≠ 35 := fun h => by have := r4 h; simpa using this
    clear he hf hr e3 r3 r4 f4 e2 f2 r2
    by_cases hq : f = e
    · exact whole_none a0 a2 a1 a3 wd F n e f r 0 h1 h3 hn hn1 hn6 hwd hw2 hno hF0 hFs hFb hwe heF hbe hlast hwf hfe hbf hfst hfr hre hhs hne hq w
    have hfe1 : f < e := by omega
    by_cases hrf0 : r < e ∧ r = f
    · exact whole_own a0 a2 a1 a3 wd F n e f r 0 h1 h3 hn hn1 hn6 hwd hw2 hno hF0 hFs hFb hwe heF hbe hlast hwf hfe hbf hfst hfr hre hhs hne hq hrf0.1 hrf0.2 w
    have hfr1 : f < r := by omega
    have hnl := hlast (by omega)
    have hrow : ∀ k : Nat, a3.size ≤ k → k < a3.size + n → bt F (k : Int) = 35 := fun k k1 k2 => by rw [hFw k (by omega)]; exact hb.row k k1 k2
    have hgap : ∀ k : Nat, a3.size + n ≤ k → k < f → Pure.blankI (bt F (k : Int)) = true := fun k k1 k2 => by
      by_cases h : k < wd.size
      · rw [hFw k h, hb.gap k k1 (by omega)]; decide
      · exact hbf k (by omega) k2
    have hxs : (F.extract 0 e).size = e := by rw [Pure.size_ext _ _ _ heF]; omega
    have hxb : ∀ k : Nat, k < e → bt (F.extract 0 e) (k : Int) = bt F (k : Int) := fun k hk => by rw [Pure.bt_ext _ _ _ _ heF (by omega), Nat.zero_add]
    have hopen : Pure.blankI (bt F ((r - 1 : Nat) : Int)) = false → ∃ kH, mdmark_Head.f kH ((F.extract 0 e) ++ (⟨#[32, 13, 10]⟩ : ByteArray)) (a3.size : Int) = some (0, (n : Int), ((a3.size + n : Nat) : Int), (f : Int), (e : Int), (e : Int), true) := by
      intro hbl
      have hl1 : Pure.blankI (bt (F.extract 0 e) (((F.extract 0 e).size - 1 : Nat) : Int)) = false := by rw [hxs, hxb _ (by omega)]; exact hnl
      have := Pure.head_whole (F.extract 0 e) a3.size n f e (by omega) (fun i hi => by rw [hxb i (by omega)]; exact hFno i (by omega)) hn1 hn6 (fun k k1 k2 => by rw [hxb k (by omega)]; exact hrow k k1 k2) (by omega) hfe1 (by omega)
        (fun k k1 k2 => by rw [hxb k (by omega)]; exact hgap k k1 k2) (by rw [hxb f hfe1]; exact hfst hfe1) hl1
        ((Pure.hEnd_open (F.extract 0 e) (a3.size + n) r (by omega) (by omega) (fun k k1 k2 => by rw [hxb k (by omega)]; exact hhs k k1 (by omega)) (by rw [hxb _ (by omega)]; exact hne hfr1) (by rw [hxb _ (by omega)]; exact hbl) hl1).trans hxs)
      rw [hxs] at this
      exact this
    have hshut : ∀ m : Nat, 1 ≤ m → m ≤ 10 → ∃ kH, mdmark_Head.f kH ((((F.extract 0 e) ++ (⟨#[32, 9]⟩ : ByteArray)) ++ ((⟨#[35, 35, 35, 35, 35, 35, 35, 35, 35, 35]⟩ : ByteArray).extract (Int.toNat (0 : Int)) (Int.toNat (m : Int)))) ++ (⟨#[32, 13, 10]⟩ : ByteArray)) (a3.size : Int) = some (0, (n : Int), ((a3.size + n : Nat) : Int), (f : Int), (e : Int), ((e + 2 + m : Nat) : Int), true) := by
      intro m m1 m10
      obtain ⟨line, hline⟩ : ∃ line, (((F.extract 0 e) ++ (⟨#[32, 9]⟩ : ByteArray)) ++ ((⟨#[35, 35, 35, 35, 35, 35, 35, 35, 35, 35]⟩ : ByteArray).extract (Int.toNat (0 : Int)) (Int.toNat (m : Int)))) = line := ⟨_, rfl⟩
      obtain ⟨s1, s2, s3, s4, s5⟩ := Pure.shut_bt _ m m10 line hline
      rw [hxs] at s1 s2 s3 s4 s5
      rw [hline]
      have hlb : ∀ k : Nat, k < e → bt line (k : Int) = bt F (k : Int) := fun k hk => (s2 k hk).trans (hxb k hk)
      have := Pure.head_whole line a3.size n f e (by omega) (fun i hi => by
          by_cases c1 : i < e
          · rw [hlb i c1]; exact hFno i (by omega)
          · by_cases c2 : i = e
            · rw [c2, s3]; decide
            · by_cases c3 : i = e + 1
              · rw [c3, s4]; decide
              · rw [s5 i (by omega) hi]; decide) hn1 hn6 (fun k k1 k2 => by rw [hlb k (by omega)]; exact hrow k k1 k2) (by omega) hfe1 (by omega)
        (fun k k1 k2 => by rw [hlb k (by omega)]; exact hgap k k1 k2) (by rw [hlb f hfe1]; exact hfst hfe1) (by rw [s5 _ (by omega) (by omega)]; decide)
        (Pure.hEnd_shut line e (a3.size + n) (by omega) (by omega) s5 s3 s4 (by rw [hlb _ (by omega)]; exact hnl))
      rw [s1] at this
      exact this
    have hc3 : Int.tmod a2 3 = a2 % 3 := Int.tmod_eq_emod_of_nonneg b2.1
    obtain ⟨m, hm0⟩ : ∃ m : Nat, 1 + a2 % 10 = (m : Int) := ⟨(1 + a2 % 10).toNat, by omega⟩
    have hmm : (IntKind.i64.wrap ((1 : Int) + (IntKind.i64.wrap (Int.tmod a2 (10 : Int))))) = (m : Int) := by rw [Int.tmod_eq_emod_of_nonneg b2.1, whole_w (x := a2 % 10) (by omega) (by omega), whole_w (by omega) (by omega)]; exact hm0
    have hm1 : 1 ≤ m := by omega
    have hm10 : m ≤ 10 := by omega
    obtain ⟨kS, hS⟩ := hshut m hm1 hm10
    rw [← hmm] at hS
    by_cases hre2 : r < e
    · cases hbl : Pure.blankI (bt F ((r - 1 : Nat) : Int)) with
      | true => exact whole_behind a0 a2 a1 a3 wd F n e f r 0 h1 h3 hn hn1 hn6 hwd hw2 hno hF0 hFs hFb hwe heF hbe hlast hwf hfe hbf hfst hfr hre hhs hne hq hre2 hfr1 hbl w
      | false =>
        by_cases hc : Int.tmod a2 3 = 0
        · obtain ⟨kH, hH⟩ := hopen hbl
          exact whole_open_on a0 a2 a1 a3 wd F n e f r e h1 h3 hn hn1 hn6 hwd hw2 hno hF0 hFs hFb hwe heF hbe hlast hwf hfe hbf hfst hfr hre hhs hne hq hre2 hfr1 hbl hc rfl kH hH w
        · exact whole_shut_on a0 a2 a1 a3 wd F n e f r (e + 2 + m) h1 h3 hn hn1 hn6 hwd hw2 hno hF0 hFs hFb hwe heF hbe hlast hwf hfe hbf hfst hfr hre hhs hne hq hre2 hfr1 hbl m (by omega) hmm hm1 hm10 rfl kS hS w
    · have hre3 : r = e := by omega
      by_cases hc : Int.tmod a2 3 = 0
      · obtain ⟨kH, hH⟩ := hopen (by rw [hre3]; exact hnl)
        exact whole_open_all a0 a2 a1 a3 wd F n e f r e h1 h3 hn hn1 hn6 hwd hw2 hno hF0 hFs hFb hwe heF hbe hlast hwf hfe hbf hfst hfr hre hhs hne hq hre3 hc rfl kH hH w
      · exact whole_shut_all a0 a2 a1 a3 wd F n e f r (e + 2 + m) h1 h3 hn hn1 hn6 hwd hw2 hno hF0 hFs hFb hwe heF hbe hlast hwf hfe hbf hfst hfr hre hhs hne hq hre3 m (by omega) hmm hm1 hm10 rfl kS hS w
end Go.Proofs.YtgeddemohcbojaaDoor.Am
