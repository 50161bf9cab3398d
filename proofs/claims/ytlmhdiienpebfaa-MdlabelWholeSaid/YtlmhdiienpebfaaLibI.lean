/- Plain lemmas: labels and titles laid with a backslash ahead of their signs are read whole; what a definition laid of its parts answers. -/
import Derived.Test.YtlmhdiienpebfaaLibM
namespace Go.Proofs.Ytlmhdiienpebfaa.Pure
open Go.RowKit Go.Proofs.Ytlmhdiienpebfaa.P Go.Proofs.YtlmhdiienpebfaaW.PrintWords Go.Proofs.YtlmhdiienpebfaaW.PrintLast
set_option linter.unusedVariables false
set_option linter.unusedSimpArgs false

/-- A list of bytes with a backslash ahead of each that q names. -/
def esc (q : Int → Bool) : List Int → List Int
  | [] => []
  | c :: cs => if q c then 92 :: c :: esc q cs else c :: esc q cs
theorem esc_snoc (q : Int → Bool) (l : List Int) (c : Int) : esc q (l ++ [c]) = esc q l ++ (if q c then [92, c] else [c]) := by
  induction l with
  | nil => simp only [List.nil_append, esc]
  | cons x l ih =>
    simp only [List.cons_append, esc, ih]
    split <;> simp
theorem esc_wth (T : ByteArray) (c : Int) (b : Int → Bool) (q : Int → Bool) (hq : ∀ x, q x = true → markI x = true) (hq92 : q 92 = true) (hqc : q c = true) (hqb : ∀ x, b x = true → q x = true) (h92 : c ≠ 92) (hb92 : b 92 = false) :
    ∀ (cs : List Int) (i : Nat), 1 ≤ i → tak T i = false → (∀ j : Nat, j < (esc q cs).length → bt T ((i + j : Nat) : Int) = (esc q cs)[j]!) → bt T ((i + (esc q cs).length : Nat) : Int) = c →
      tak T (i + (esc q cs).length) = false ∧ ∀ k, i ≤ k → k < i + (esc q cs).length → (qc T c k || qo T b k) = false
  | [], i, hi, ht, hb, hc => ⟨by simpa [esc] using ht, fun k h1 h2 => by simp [esc] at h2; omega⟩
  | x :: cs, i, hi, ht, hb, hc => by
    unfold esc at hb hc ⊢
    by_cases hx : q x = true
    · simp only [if_pos hx] at hb hc ⊢
      have h0 := hb 0 (by simp)
      have h1 := hb 1 (by simp)
      simp only [Nat.add_zero, List.getElem!_cons_zero, List.getElem!_cons_succ] at h0 h1
      have t1 : tak T (i + 1) = true := by
        rw [tak_succ T i (by omega), ht, h0, h1, hq x hx]; rfl
      have t2 : tak T (i + 2) = false := by
        rw [tak_succ T (i + 1) (by omega), t1]; rfl
      have ih := esc_wth T c b q hq hq92 hqc hqb h92 hb92 cs (i + 2) (by omega) t2 (fun j hj => by
        have := hb (j + 2) (by simp; omega)
        simp only [List.getElem!_cons_succ] at this
        rw [← this]; congr 2; omega) (by
        rw [← hc]; congr 2; simp; omega)
      refine ⟨?_, fun k k1 k2 => ?_⟩
      · have := ih.1
        simp only [List.length_cons]
        rw [show i + ((esc q cs).length + 1 + 1) = i + 2 + (esc q cs).length by omega]; exact this
      · rcases Nat.lt_or_ge k (i + 2) with hk | hk
        · rcases Nat.lt_or_ge k (i + 1) with hk' | hk'
          · obtain rfl : k = i := by omega
            unfold qc qo
            rw [h0, hb92]
            simp; omega
          · obtain rfl : k = i + 1 := by omega
            unfold qc qo
            rw [t1]; simp
        · exact ih.2 k hk (by simp only [List.length_cons] at k2; omega)
    · simp only [if_neg hx] at hb hc ⊢
      have h0 := hb 0 (by simp)
      simp only [Nat.add_zero, List.getElem!_cons_zero] at h0
      have hne : x ≠ 92 := fun e => hx (by rw [e]; exact hq92)
      have hnc : x ≠ c := fun e => hx (by rw [e]; exact hqc)
      have hnb : b x = false := by
        cases h : b x with
        | false => rfl
        | true => exact absurd (hqb x h) hx
      have t1 : tak T (i + 1) = false := by
        rw [tak_succ T i (by omega), h0]
        simp [hne]
      have ih := esc_wth T c b q hq hq92 hqc hqb h92 hb92 cs (i + 1) (by omega) t1 (fun j hj => by
        have := hb (j + 1) (by simp; omega)
        simp only [List.getElem!_cons_succ] at this
        rw [← this]; congr 2; omega) (by
        rw [← hc]; congr 2; simp; omega)
      refine ⟨?_, fun k k1 k2 => ?_⟩
      · have := ih.1
        simp only [List.length_cons]
        rw [show i + ((esc q cs).length + 1) = i + 1 + (esc q cs).length by omega]; exact this
      · rcases Nat.lt_or_ge k (i + 1) with hk' | hk'
        · obtain rfl : k = i := by omega
          unfold qc qo
          rw [h0, hnb]
          simp [hnc]
        · exact ih.2 k hk' (by simp only [List.length_cons] at k2; omega)
theorem bt_bytes (T : ByteArray) (i : Nat) (h : i < T.size) : bt T (i : Int) = (bytesOf T)[i]! := by
  have hl : i < (bytesOf T).length := by rw [bytesOf_length]; exact h
  rw [getElem!_pos (bytesOf T) i hl]
  have := bytes_drop T i h
  rw [List.drop_eq_getElem_cons hl] at this
  exact (List.cons.inj this).1.symm
/-- A text of a first byte, a laid body, the closing byte, and a rest. -/
theorem wth_laid (T : ByteArray) (c0 c : Int) (b : Int → Bool) (q : Int → Bool) (hq : ∀ x, q x = true → markI x = true) (hq92 : q 92 = true) (hqc : q c = true) (hqb : ∀ x, b x = true → q x = true) (h92 : c ≠ 92) (hb92 : b 92 = false)
    (cs rest : List Int) (hT : bytesOf T = c0 :: (esc q cs ++ c :: rest)) : wth T c b = some ((esc q cs).length + 2) := by
  have hsz : T.size = (esc q cs).length + rest.length + 2 := by
    have := congrArg List.length hT
    rw [bytesOf_length] at this
    simp only [List.length_cons, List.length_append] at this
    omega
  have hby : ∀ j : Nat, j < (esc q cs).length → bt T ((1 + j : Nat) : Int) = (esc q cs)[j]! := by
    intro j hj
    rw [bt_bytes T (1 + j) (by omega), hT, Nat.add_comm 1 j, List.getElem!_cons_succ, getElem!_pos (esc q cs ++ c :: rest) j (by simp; omega), List.getElem_append_left hj, getElem!_pos (esc q cs) j hj]
  have hlast : bt T ((1 + (esc q cs).length : Nat) : Int) = c := by
    rw [bt_bytes T _ (by omega), hT, Nat.add_comm 1 _, List.getElem!_cons_succ, getElem!_pos (esc q cs ++ c :: rest) (esc q cs).length (by simp), List.getElem_append_right (by omega)]
    simp
  obtain ⟨h1, h2⟩ := esc_wth T c b q hq hq92 hqc hqb h92 hb92 cs 1 (Nat.le_refl _) (tak_one T) hby hlast
  have hqcl : qc T c (1 + (esc q cs).length) = true := by
    unfold qc; rw [hlast, h1]; simp
  unfold wth
  rw [fst_eq (j := 1 + (esc q cs).length) (by omega) (by omega) (by rw [hqcl]; rfl) (fun k k1 k2 => h2 k k1 k2)]
  simp only [hqcl, if_true]
  congr 1; omega

theorem app_assoc (a b c : ByteArray) : (a ++ b) ++ c = a ++ (b ++ c) := by apply ext_list; simp
theorem size_app (a b : ByteArray) : (a ++ b).size = a.size + b.size := ByteArray.size_append
theorem bt_mem (s : ByteArray) (i : Nat) (h : i < s.size) : bt s (i : Int) ∈ bytesOf s := by
  rw [bt_bytes s i h, getElem!_pos (bytesOf s) i (by rw [bytesOf_length]; exact h)]
  exact List.getElem_mem _
theorem extract_app (a t : ByteArray) : (a ++ t).extract a.size (a ++ t).size = t := by
  apply ext_list
  rw [extract_list]
  simp [len_eq]
  rw [← len_eq t, List.take_length]
theorem cut_suffix (S A T : ByteArray) (h : S = A ++ T) (hE : endN S = S.size) (hT : 0 < T.size) : Cut S (A.size : Int) (S.size : Int) T A.size := by
  have hs : S.size = A.size + T.size := by rw [h, size_app]
  have hm : mn (S.size : Int) (endN S : Int) = (S.size : Int) := by rw [hE]; unfold mn; split <;> omega
  refine ⟨rfl, by rw [hm]; omega, ?_, ⟨by omega, fun i hi => ?_⟩, hT, by rw [hm]; omega⟩
  · rw [hm, Int.toNat_natCast, Int.toNat_natCast]
    have := extract_app A T
    rw [← h] at this
    exact this
  · rw [h]; exact bt_app2 A T i hi
def Blanks (G : ByteArray) : Prop := ∀ i : Nat, i < G.size → blankI (bt G (i : Int)) = true
/-- Nothing follows, or what follows begins with no blank. -/
def Stops (R : ByteArray) : Prop := 0 < R.size → blankI (bt R 0) = false
theorem bt_zero_app (A B : ByteArray) (i : Nat) (h : A.size = i) (hB : 0 < B.size) : bt (A ++ B) (i : Int) = bt B 0 := by
  have := bt_app2 A B 0 hB
  rw [Nat.add_zero, h] at this
  exact this
theorem skip_at (S A G R : ByteArray) (h : S = A ++ (G ++ R)) (hE : endN S = S.size) (hs : S.size ≤ 4294967296) (hG : Blanks G) (hR : Stops R) :
    Ev (fun k => mdlabel_Skip.f k S (A.size : Int) (S.size : Int)) ((A.size + G.size : Nat) : Int) := by
  by_cases h0 : 0 < (G ++ R).size
  · have c := cut_suffix S A (G ++ R) h hE h0
    have := skip_p_in S hs _ _ c
    unfold skS at this
    rw [far_eq (j := G.size) (by omega) (by rw [size_app]; omega) (fun k _ hk => by rw [bt_app1 G R k hk]; exact hG k hk) (fun hlt => by
      rw [size_app] at hlt
      rw [bt_zero_app G R _ rfl (by omega)]; exact hR (by omega))] at this
    exact this
  · have e : (G ++ R).size = 0 := by omega
    rw [size_app] at e
    have hs : S.size = A.size := by rw [h, size_app, size_app]; omega
    have := skip_p_out S (by omega) (A.size : Int) (S.size : Int) (by rw [hE, hs]; unfold mn; split <;> omega)
    rw [show A.size + G.size = A.size by omega]
    exact this
theorem ds_plain (D R : ByteArray) (a : Nat) (h0 : 0 < D.size) (h60 : bt D 0 ≠ 60) (hD : ∀ i : Nat, i < D.size → 32 < bt D (i : Int) ∧ bt D (i : Int) ≠ 127) (hR : R.size = 0 ∨ blankI (bt R 0) = true) :
    dsS (D ++ R) a = (((a + D.size : Nat) : Int), true) := by
  have hb0 : bt (D ++ R) 0 = bt D 0 := bt_app1 D R 0 h0
  have hf : far (fun i => decide (bt (D ++ R) (i : Int) > 32) && bt (D ++ R) (i : Int) != 127) (D ++ R).size 0 = D.size := by
    refine far_eq (by omega) (by rw [size_app]; omega) (fun k _ hk => ?_) (fun hlt => ?_)
    · have := hD k hk
      rw [bt_app1 D R k hk]
      simp; omega
    · rw [size_app] at hlt
      rw [bt_zero_app D R _ rfl (by omega)]
      rcases hR with hR | hR
      · omega
      · unfold blankI at hR
        simp at hR ⊢
        intro h; omega
  unfold dsS
  rw [hb0, if_neg h60, hf, if_neg (by omega)]
theorem ds_angle (D R : ByteArray) (a : Nat) (cs : List Int) (hD : bytesOf D = 60 :: (cs ++ [62])) (hcs : esc (fun x => x == 60 || x == 62 || x == 92) cs = cs) : dsS (D ++ R) a = (((a + D.size : Nat) : Int), true) := by
  have hsz : D.size = cs.length + 2 := by
    rw [← bytesOf_length, hD]; simp
  have hb0 : bt (D ++ R) 0 = 60 := by
    have e1 : bt (D ++ R) 0 = bt D 0 := bt_app1 D R 0 (by omega)
    have e2 : bt D 0 = (bytesOf D)[0]! := bt_bytes D 0 (by omega)
    rw [e1, e2, hD]; rfl
  have hw := wth_laid (D ++ R) 60 62 (fun x => x == 60) (fun x => x == 60 || x == 62 || x == 92)
    (fun x hx => by simp at hx; unfold markI; simp; omega) (by decide) (by decide) (fun x hx => by simp at hx; simp [hx]) (by decide) (by decide) cs (bytesOf R)
    (by rw [bytesOf_app, hD, hcs]; simp)
  unfold dsS
  rw [hb0, if_pos rfl, hw, hcs]
  simp only
  rw [hsz]
theorem ti_laid (B R : ByteArray) (a : Nat) (cs : List Int) (hB : bytesOf B = esc (fun x => x == 34 || x == 92) cs) : tiS ((⟨#[34]⟩ : ByteArray) ++ (B ++ ((⟨#[34]⟩ : ByteArray) ++ R))) a = (((a + (B.size + 2) : Nat) : Int), true) := by
  have hb0 : bt ((⟨#[34]⟩ : ByteArray) ++ (B ++ ((⟨#[34]⟩ : ByteArray) ++ R))) 0 = 34 := bt_app1 (⟨#[34]⟩ : ByteArray) _ 0 (by decide)
  have e34 : bytesOf (⟨#[34]⟩ : ByteArray) = [34] := rfl
  have hw := wth_laid ((⟨#[34]⟩ : ByteArray) ++ (B ++ ((⟨#[34]⟩ : ByteArray) ++ R))) 34 34 (fun _ => false) (fun x => x == 34 || x == 92)
    (fun x hx => by simp at hx; unfold markI; simp; omega) (by decide) (by decide) (fun x hx => by simp at hx) (by decide) rfl cs (bytesOf R)
    (by rw [bytesOf_app, bytesOf_app, bytesOf_app, e34, hB]; simp)
  unfold tiS
  rw [hb0, if_pos (.inl rfl), hw, ← hB, bytesOf_length]
theorem rd_laid (n R : ByteArray) (a : Nat) (cs : List Int) (hn : bytesOf n = esc (fun x => x == 91 || x == 93 || x == 92) cs) :
    rdS ((⟨#[91]⟩ : ByteArray) ++ (n ++ ((⟨#[93]⟩ : ByteArray) ++ R))) a = if n.size > 200 then (0, false) else if (foldS n).toList = ([] : List UInt8) then (0, false) else (((a + (n.size + 2) : Nat) : Int), true) := by
  have hb0 : bt ((⟨#[91]⟩ : ByteArray) ++ (n ++ ((⟨#[93]⟩ : ByteArray) ++ R))) 0 = 91 := bt_app1 (⟨#[91]⟩ : ByteArray) _ 0 (by decide)
  have e91 : bytesOf (⟨#[91]⟩ : ByteArray) = [91] := rfl
  have e93 : bytesOf (⟨#[93]⟩ : ByteArray) = [93] := rfl
  have hw := wth_laid ((⟨#[91]⟩ : ByteArray) ++ (n ++ ((⟨#[93]⟩ : ByteArray) ++ R))) 91 93 (fun x => x == 91) (fun x => x == 91 || x == 93 || x == 92)
    (fun x hx => by simp at hx; unfold markI; simp; omega) (by decide) (by decide) (fun x hx => by simp at hx; simp [hx]) (by decide) (by decide) cs (bytesOf R)
    (by rw [bytesOf_app, bytesOf_app, bytesOf_app, e91, e93, hn]; simp)
  have hx : ((⟨#[91]⟩ : ByteArray) ++ (n ++ ((⟨#[93]⟩ : ByteArray) ++ R))).extract 1 (n.size + 2 - 1) = n := by
    apply ext_list
    rw [extract_list]
    simp [len_eq]
  unfold rdS
  rw [hb0, if_pos rfl, hw, ← hn, bytesOf_length]
  simp only
  rw [hx]
  by_cases h : n.size > 200
  · rw [if_pos h, if_pos (by omega)]
  · rw [if_neg h, if_neg (by omega)]
/-- A line of no line break ahead of its last byte. -/
theorem ends (A W : ByteArray) (hA : ∀ c ∈ bytesOf A, c ≠ 10) (hW : ∀ c ∈ bytesOf W, c ≠ 10 ∧ c ≠ 13) (hW0 : 0 < W.size) :
    endN (A ++ W) = (A ++ W).size ∧ endN ((A ++ W) ++ (⟨#[10]⟩ : ByteArray)) = (A ++ W).size := by
  have hno : ∀ i : Nat, i < (A ++ W).size → bt (A ++ W) (i : Int) ≠ 10 := by
    intro i hi
    have := bt_mem (A ++ W) i hi
    rw [bytesOf_app] at this
    rcases List.mem_append.1 this with h | h
    · exact hA _ h
    · exact (hW _ h).1
  refine ⟨endN_none hno, ?_⟩
  have h10 : bt ((A ++ W) ++ (⟨#[10]⟩ : ByteArray)) (((A ++ W).size : Nat) : Int) = 10 := bt_zero_app (A ++ W) _ _ rfl (by decide)
  have hf : fst (fun i => bt ((A ++ W) ++ (⟨#[10]⟩ : ByteArray)) (i : Int) == 10) ((A ++ W) ++ (⟨#[10]⟩ : ByteArray)).size 0 = some (A ++ W).size := by
    refine fst_eq (by omega) (by rw [size_app (A ++ W)]; have : (⟨#[10]⟩ : ByteArray).size = 1 := rfl; omega) (by rw [h10]; rfl) (fun k _ hk => ?_)
    rw [bt_app1 (A ++ W) _ k hk]
    simpa using hno k hk
  unfold endN
  rw [hf]
  simp only
  rw [if_neg]
  rintro ⟨h0, h13⟩
  have hsz := size_app A W
  rw [bt_app1 (A ++ W) _ _ (by omega), show (A ++ W).size - 1 = A.size + (W.size - 1) by omega, bt_app2 A W _ (by omega)] at h13
  exact (hW _ (bt_mem W (W.size - 1) (by omega))).2 h13
theorem extract_zero_app (a t : ByteArray) : (a ++ t).extract 0 a.size = a := by
  apply ext_list
  rw [extract_list]
  simp [len_eq]
theorem head_val (A W : ByteArray) (hA : ∀ c ∈ bytesOf A, c ≠ 10) (hW : ∀ c ∈ bytesOf W, c ≠ 10 ∧ c ≠ 13) (hW0 : 0 < W.size) (hs : (A ++ W).size ≤ 4294967295) :
    mdlabel_ahead.f ((A ++ W) ++ (⟨#[10]⟩ : ByteArray)) = some (A ++ W) := by
  rw [ahead_val _ (by rw [size_app (A ++ W)]; have : (⟨#[10]⟩ : ByteArray).size = 1 := rfl; omega), (ends A W hA hW hW0).2, extract_zero_app]

theorem def_no (L S : ByteArray) (x : Int) (hh : mdlabel_ahead.f L = some S) (hr : Ev (fun k => mdlabel_Read.f k S x (S.size : Int)) (0, false)) : Ev (fun k => mdlabel_Def.f k L x) ((⟨#[]⟩ : ByteArray), 0, false) := by
  have stop : Ev (fun k => mdlabel_Def.j0 k x S 0 true) ((⟨#[]⟩ : ByteArray), 0, false) := Ev.step (fun k => by rw [mdlabel_Def.j0, if_pos rfl]) (Ev.now _)
  refine Ev.congr (fun k => by unfold mdlabel_Def.f; rw [hh, Option.bind_some]) (Ev.bind hr ?_)
  exact ev_neg (by simp) stop
theorem def_chain (L S : ByteArray) (x r1 p2 p3 : Nat) (r : ByteArray × Int × Bool) (hs : S.size ≤ 4294967295) (hh : mdlabel_ahead.f L = some S)
    (hr : Ev (fun k => mdlabel_Read.f k S (x : Int) (S.size : Int)) ((r1 : Int), true)) (h1 : r1 < S.size) (h58 : bt S (r1 : Int) = 58) (hx : x + 2 ≤ r1)
    (h2 : Ev (fun k => mdlabel_Skip.f k S ((r1 + 1 : Nat) : Int) (S.size : Int)) (p2 : Int)) (h3 : Ev (fun k => mdlabel_Dest.f k S (p2 : Int) (S.size : Int)) ((p3 : Int), true))
    (h : Ev (fun k => (mdlabel_Skip.f k S (p3 : Int) (S.size : Int)).bind fun t155 => (if t155 = (S.size : Int) then (some (foldS (S.extract (x + 1) (r1 - 1)), (p3 : Int), true)) else ((mdlabel_Title.f k S t155 (S.size : Int)).bind fun bt156 => (if bt156.2 = true then (if t155 = (p3 : Int) then (some ((⟨#[]⟩ : ByteArray), 0, false)) else ((mdlabel_Skip.f k S bt156.1 (S.size : Int)).bind fun t158 => (if t158 = (S.size : Int) then (some (foldS (S.extract (x + 1) (r1 - 1)), bt156.1, true)) else (some ((⟨#[]⟩ : ByteArray), 0, false))))) else (some ((⟨#[]⟩ : ByteArray), 0, false)))))) r) :
    Ev (fun k => mdlabel_Def.f k L (x : Int)) r := by
  refine Ev.congr (fun k => by unfold mdlabel_Def.f; rw [hh, Option.bind_some]) (Ev.bind hr ?_)
  refine ev_pos rfl (ev_neg (by simp; omega) (ev_pos (by simp) (ev_pos (by simp; omega) ?_)))
  have w1 : wrap64 ((x : Int) + 1) = ((x + 1 : Nat) : Int) := by rw [w64 (by omega) (by omega)]; omega
  have w2 : wrap64 ((r1 : Int) - 1) = ((r1 - 1 : Nat) : Int) := by rw [w64 (by omega) (by omega)]; omega
  have w3 : wrap64 ((r1 : Int) + 1) = ((r1 + 1 : Nat) : Int) := by rw [w64 (by omega) (by omega)]; omega
  have hsx := size_ext S (x + 1) (r1 - 1) (by omega)
  have hfold := fold_val (S.extract (x + 1) (r1 - 1)) (by omega)
  refine Ev.step (f := fun k => (mdlabel_Skip.f k S ((r1 + 1 : Nat) : Int) (S.size : Int)).bind fun t152 => (mdlabel_Dest.f k S t152 (S.size : Int)).bind fun bt153 => if bt153.2 = true then ((mdlabel_Skip.f k S bt153.1 (S.size : Int)).bind fun t155 => (if t155 = (S.size : Int) then (some (foldS (S.extract (x + 1) (r1 - 1)), bt153.1, true)) else ((mdlabel_Title.f k S t155 (S.size : Int)).bind fun bt156 => (if bt156.2 = true then (if t155 = bt153.1 then (some ((⟨#[]⟩ : ByteArray), 0, false)) else ((mdlabel_Skip.f k S bt156.1 (S.size : Int)).bind fun t158 => (if t158 = (S.size : Int) then (some (foldS (S.extract (x + 1) (r1 - 1)), bt156.1, true)) else (some ((⟨#[]⟩ : ByteArray), 0, false))))) else (some ((⟨#[]⟩ : ByteArray), 0, false)))))) else (some ((⟨#[]⟩ : ByteArray), 0, false))) (fun k => ?_) (Ev.bind h2 (Ev.bind h3 (ev_pos rfl h)))
  dsimp only
  rw [mdlabel_Def.j0, h58, if_neg (by decide), w1, w2, w3, if_pos (by omega), if_pos (by omega), if_pos (by omega), Int.toNat_natCast, Int.toNat_natCast, hfold, Option.bind_some]
end Go.Proofs.Ytlmhdiienpebfaa.Pure
