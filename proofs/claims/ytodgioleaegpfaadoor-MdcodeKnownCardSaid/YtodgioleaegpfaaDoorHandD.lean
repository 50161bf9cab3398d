/- The contract of mdcode.count, in the printed functions' form, at the functions that the program hands it. Conditions: the text's size. -/
import Derived.Test.YtodgioleaegpfaaDoorHandC
import Derived.Test.YtodgioleaegpfaaDoorLibA
import Derived.Test.YtodgioleaegpfaaDoorQmA
namespace Go.Proofs.YtodgioleaegpfaaDoor.P
open Go.RowKit Go.Proofs.YtodgioleaegpfaaDoorW.PrintWords Go.Proofs.YtodgioleaegpfaaDoorW.PrintLast Go.Proofs.YtodgioleaegpfaaDoorW.PrintMore
set_option linter.unusedVariables false
set_option linter.unusedSimpArgs false
theorem tot_letter (c : Int) : ∃ b, mdcode_letter.f c = some b := by
  unfold mdcode_letter.f
  repeat' split
  all_goals exact ⟨_, rfl⟩
theorem tot_digit (c : Int) : ∃ b, mdcode_digit.f c = some b := by unfold mdcode_digit.f; split <;> exact ⟨_, rfl⟩
theorem tot_accents (c : Int) : ∃ b, mdcode_accents_1.f c = some b := ⟨_, rfl⟩
theorem tot_scheme1 (c : Int) : ∃ b, mdcode_scheme_1.f c = some b := by
  obtain ⟨x, hx⟩ := tot_letter c
  obtain ⟨y, hy⟩ := tot_digit c
  unfold mdcode_scheme_1.f
  rw [hx, hy]
  simp only [Option.bind_some]
  repeat' split
  all_goals first | exact ⟨_, rfl⟩ | (unfold strings_IndexByte.f; exact ⟨_, rfl⟩)
theorem tot_scheme2 (c : Int) : ∃ b, mdcode_scheme_2.f c = some b := by
  unfold mdcode_scheme_2.f
  repeat' split
  all_goals exact ⟨_, rfl⟩
theorem tot_mail1 (c : Int) : ∃ b, mdcode_mail_1.f c = some b := by
  obtain ⟨x, hx⟩ := tot_letter c
  obtain ⟨y, hy⟩ := tot_digit c
  unfold mdcode_mail_1.f
  rw [hx, hy]
  simp only [Option.bind_some]
  repeat' split
  all_goals first | exact ⟨_, rfl⟩ | (unfold strings_IndexByte.f; exact ⟨_, rfl⟩)
theorem tot_mail2 (c : Int) : ∃ b, mdcode_mail_2.f c = some b := by
  obtain ⟨x, hx⟩ := tot_letter c
  obtain ⟨y, hy⟩ := tot_digit c
  unfold mdcode_mail_2.f
  rw [hx, hy]
  simp only [Option.bind_some]
  repeat' split
  all_goals exact ⟨_, rfl⟩
theorem tot_entity1 (c : Int) : ∃ b, mdcode_entity_1.f c = some b := by
  obtain ⟨y, hy⟩ := tot_digit c
  unfold mdcode_entity_1.f
  rw [hy]
  simp only [Option.bind_some]
  repeat' split
  all_goals exact ⟨_, rfl⟩
/-- What a function of one byte says. -/
def predO (g : Nat) (c : Int) : Option Bool :=
  if g = 44 then mdcode_accents_1.f c else if g = 47 then mdcode_scheme_1.f c else if g = 48 then mdcode_digit.f c else if g = 49 then mdcode_scheme_2.f c else if g = 50 then mdcode_mail_1.f c else if g = 52 then mdcode_mail_2.f c else if g = 56 then mdcode_entity_1.f c else none
def pred (g : Nat) (c : Int) : Bool := (predO g c).getD false
def known (g : Nat) : Bool := g == 44 || g == 47 || g == 48 || g == 49 || g == 50 || g == 52 || g == 56
def mdcode_count.f (s : ByteArray) (g : Nat) : Option Int :=
  if s.size ≤ 140737488355328 ∧ known g = true then some ((Pure.far (fun i => pred g (bt s (i : Int))) s.size 0 : Nat) : Int) else none
theorem pred_of {g : Nat} {c : Int} {o : Option Bool} (h : predO g c = o) (ht : ∃ b, o = some b) : o = some (pred g c) := by
  obtain ⟨b, hb⟩ := ht
  unfold pred
  rw [h, hb]
  rfl
theorem known_call (g : Nat) (hk : known g = true) (w0 : World) (c : Int) : (Am.Cst.call g [.int .u8 c] (.bool (pred g c))).holds Tryd.prog w0 := by
  have hg : g = 44 ∨ g = 47 ∨ g = 48 ∨ g = 49 ∨ g = 50 ∨ g = 52 ∨ g = 56 := by
    unfold known at hk
    simpa [or_assoc] using hk
  rcases hg with rfl | rfl | rfl | rfl | rfl | rfl | rfl
  · exact ⟨⟨_, Tryd.func44, by kernel_rfl, by kernel_rfl⟩, fun B W _ => (mdcode_accents_1.calls c _ W (pred_of (g := 44) rfl (tot_accents c))).mono fun x w' ⟨h1, h2⟩ => ⟨h1, h2.below⟩⟩
  · exact ⟨⟨_, Tryd.func47, by kernel_rfl, by kernel_rfl⟩, fun B W _ => (mdcode_scheme_1.calls c _ W (pred_of (g := 47) rfl (tot_scheme1 c))).mono fun x w' ⟨h1, h2⟩ => ⟨h1, h2.below⟩⟩
  · exact ⟨⟨_, Tryd.func48, by kernel_rfl, by kernel_rfl⟩, fun B W _ => (mdcode_digit.calls c _ W (pred_of (g := 48) rfl (tot_digit c))).mono fun x w' ⟨h1, h2⟩ => ⟨h1, h2.below⟩⟩
  · exact ⟨⟨_, Tryd.func49, by kernel_rfl, by kernel_rfl⟩, fun B W _ => (mdcode_scheme_2.calls c _ W (pred_of (g := 49) rfl (tot_scheme2 c))).mono fun x w' ⟨h1, h2⟩ => ⟨h1, h2.below⟩⟩
  · exact ⟨⟨_, Tryd.func50, by kernel_rfl, by kernel_rfl⟩, fun B W _ => (mdcode_mail_1.calls c _ W (pred_of (g := 50) rfl (tot_mail1 c))).mono fun x w' ⟨h1, h2⟩ => ⟨h1, h2.below⟩⟩
  · exact ⟨⟨_, Tryd.func52, by kernel_rfl, by kernel_rfl⟩, fun B W _ => (mdcode_mail_2.calls c _ W (pred_of (g := 52) rfl (tot_mail2 c))).mono fun x w' ⟨h1, h2⟩ => ⟨h1, h2.below⟩⟩
  · exact ⟨⟨_, Tryd.func56, by kernel_rfl, by kernel_rfl⟩, fun B W _ => (mdcode_entity_1.calls c _ W (pred_of (g := 56) rfl (tot_entity1 c))).mono fun x w' ⟨h1, h2⟩ => ⟨h1, h2.below⟩⟩
theorem mdcode_count.calls (s : ByteArray) (g : Nat) (r : Int) (w : World) (h : mdcode_count.f s g = some r) :
    Calls Tryd.prog 43 #[.string s, .func (.func g) #[] #[]] w fun e w' => e = .returned (.int .i64 r) ∧ Below w.heap.size w w' := by
  unfold mdcode_count.f at h
  by_cases hs : s.size ≤ 140737488355328 ∧ known g = true
  · rw [if_pos hs] at h
    obtain rfl := Option.some.inj h
    obtain ⟨p1, p2, p3, p4⟩ := Pure.far_prop (q := fun i => pred g (bt s (i : Int))) s.size 0
    have hg := known_call g hs.2 w
    by_cases hp : Pure.far (fun i => pred g (bt s (i : Int))) s.size 0 < s.size
    · exact Am.count_at w s g (pred g) hg hs.1 _ hp (fun k hk => p3 k (Nat.zero_le _) hk) (p4 (by omega))
    · have e : Pure.far (fun i => pred g (bt s (i : Int))) s.size 0 = s.size := by omega
      rw [e] at p3 ⊢
      exact Am.count_none w s g (pred g) hg hs.1 (fun k hk => p3 k (Nat.zero_le _) hk)
  · rw [if_neg hs] at h; cases h
end Go.Proofs.YtodgioleaegpfaaDoor.P
