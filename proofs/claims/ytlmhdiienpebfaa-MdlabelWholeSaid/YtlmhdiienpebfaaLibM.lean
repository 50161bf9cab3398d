/- Plain lemmas: the folded form is folded, has single blanks and no capitals, and folds along a joined text. -/
import Derived.Test.YtlmhdiienpebfaaLibE
namespace Go.Proofs.Ytlmhdiienpebfaa.Pure
open Go.RowKit Go.Proofs.Ytlmhdiienpebfaa.P Go.Proofs.YtlmhdiienpebfaaW.PrintWords Go.Proofs.YtlmhdiienpebfaaW.PrintLast
set_option linter.unusedVariables false
set_option linter.unusedSimpArgs false

def okc (c : Int) : Prop := 0 ≤ c ∧ c ≤ 255 ∧ blankI c = false ∧ ¬ (65 ≤ c ∧ c ≤ 90)
def okw (w : List Int) : Prop := w ≠ [] ∧ ∀ c ∈ w, okc c
theorem okc_low {c : Int} (h0 : 0 ≤ c) (h1 : c ≤ 255) (hb : blankI c = false) : okc (lowI c) := by
  unfold blankI at hb
  simp only [Bool.or_eq_false_iff, beq_eq_false_iff_ne, ne_eq] at hb
  unfold okc lowI
  split
  · refine ⟨by omega, by omega, ?_, by omega⟩
    unfold blankI; simp; omega
  · refine ⟨by omega, by omega, ?_, by omega⟩
    unfold blankI; simp; omega
theorem low_ok {c : Int} (h : okc c) : lowI c = c := by
  unfold lowI; rw [if_neg h.2.2.2]
theorem wgo_ok : ∀ (l cur : List Int), (∀ c ∈ cur, okc c) → (∀ c ∈ l, 0 ≤ c ∧ c ≤ 255) → ∀ w ∈ wgo cur l, okw w
  | [], cur, hc, _, w, hw => by
    unfold wgo at hw
    split at hw
    · cases hw
    · rw [List.mem_singleton.1 hw]; rename_i h; exact ⟨h, hc⟩
  | c :: cs, cur, hc, hl, w, hw => by
    have hl' : ∀ c ∈ cs, 0 ≤ c ∧ c ≤ 255 := fun x hx => hl x (List.mem_cons_of_mem _ hx)
    unfold wgo at hw
    by_cases hb : blankI c = true
    · rw [if_pos hb] at hw
      split at hw
      · exact wgo_ok cs [] (fun _ h => nomatch h) hl' w hw
      · rename_i h
        rcases List.mem_cons.1 hw with rfl | hw
        · exact ⟨h, hc⟩
        · exact wgo_ok cs [] (fun _ h => nomatch h) hl' w hw
    · rw [if_neg hb] at hw
      refine wgo_ok cs _ (fun x hx => ?_) hl' w hw
      rcases List.mem_append.1 hx with hx | hx
      · exact hc x hx
      · rw [List.mem_singleton.1 hx]
        have := hl c (List.mem_cons_self ..)
        exact okc_low this.1 this.2 (by simpa using hb)
theorem bytes_rng (s : ByteArray) : ∀ c ∈ bytesOf s, 0 ≤ c ∧ c ≤ 255 := by
  intro c hc
  simp only [bytesOf, List.mem_map] at hc
  obtain ⟨b, _, rfl⟩ := hc
  have := b.toNat_lt
  omega
theorem words_ok (s : ByteArray) : ∀ w ∈ wgo [] (bytesOf s), okw w := wgo_ok _ [] (fun _ h => nomatch h) (bytes_rng s)
def flat (r : List (List Int)) : List Int := (r.map (32 :: ·)).flatten
theorem glue_cons (w : List Int) (r : List (List Int)) : glue (w :: r) = w ++ flat r := rfl
theorem flat_cons (w : List Int) (r : List (List Int)) : flat (w :: r) = 32 :: (w ++ flat r) := by simp [flat]
theorem wgo_word (w cur rest : List Int) (h : ∀ c ∈ w, okc c) : wgo cur (w ++ rest) = wgo (cur ++ w) rest := by
  rw [wgo_pass w cur rest (fun x hx => (h x hx).2.2.1)]
  congr 2
  conv => rhs; rw [← List.map_id w]
  exact List.map_congr_left fun x hx => low_ok (h x hx)
theorem wgo_flat : ∀ (r : List (List Int)) (w : List Int), w ≠ [] → (∀ v ∈ r, okw v) → wgo w (flat r) = w :: r
  | [], w, hw, _ => by simp [flat, wgo, hw]
  | v :: r, w, hw, h => by
    have hv := h v (List.mem_cons_self ..)
    rw [flat_cons, wgo, if_pos (by decide), if_neg hw, wgo_word v [] _ hv.2, List.nil_append,
      wgo_flat r v hv.1 (fun x hx => h x (List.mem_cons_of_mem _ hx))]
theorem wgo_glue (ws : List (List Int)) (h : ∀ v ∈ ws, okw v) : wgo [] (glue ws) = ws := by
  cases ws with
  | nil => simp [glue, wgo]
  | cons w r =>
    have hv := h w (List.mem_cons_self ..)
    rw [glue_cons, wgo_word w [] _ hv.2, List.nil_append, wgo_flat r w hv.1 (fun x hx => h x (List.mem_cons_of_mem _ hx))]
theorem wgo_split (c : Int) (hc : blankI c = true) (l2 : List Int) : ∀ (l1 cur : List Int), wgo cur (l1 ++ c :: l2) = wgo cur l1 ++ wgo [] l2
  | [], cur => by
    have e1 : wgo cur (c :: l2) = if cur = [] then wgo [] l2 else cur :: wgo [] l2 := by
      conv => lhs; unfold wgo
      rw [if_pos hc]
    have e2 : wgo cur [] = if cur = [] then [] else [cur] := by
      conv => lhs; unfold wgo
    rw [List.nil_append, e1, e2]
    split <;> simp
  | x :: l1, cur => by
    have e1 : ∀ l, wgo cur (x :: l) = if blankI x = true then (if cur = [] then wgo [] l else cur :: wgo [] l) else wgo (cur ++ [lowI x]) l := fun l => by
      conv => lhs; unfold wgo
    rw [List.cons_append, e1, e1, wgo_split c hc l2 l1 [], wgo_split c hc l2 l1 (cur ++ [lowI x])]
    split
    · split <;> simp
    · rfl
theorem glue_rng (ws : List (List Int)) (h : ∀ v ∈ ws, okw v) : ∀ c ∈ glue ws, 0 ≤ c ∧ c ≤ 255 := by
  intro c hc
  cases ws with
  | nil => cases hc
  | cons w r =>
    rw [glue_cons] at hc
    rcases List.mem_append.1 hc with hc | hc
    · have := (h w (List.mem_cons_self ..)).2 c hc; exact ⟨this.1, this.2.1⟩
    · simp only [flat, List.mem_flatten, List.mem_map] at hc
      obtain ⟨_, ⟨v, hv, rfl⟩, hc⟩ := hc
      rcases List.mem_cons.1 hc with rfl | hc
      · omega
      · have := (h v (List.mem_cons_of_mem _ hv)).2 c hc; exact ⟨this.1, this.2.1⟩
theorem bytes_str (xs : List Int) (h : ∀ c ∈ xs, 0 ≤ c ∧ c ≤ 255) : bytesOf (strOfNums xs) = xs := by
  unfold bytesOf
  rw [strOfNums_data, List.map_map]
  conv => rhs; rw [← List.map_id xs]
  refine List.map_congr_left fun x hx => ?_
  have := h x hx
  simp
  omega
theorem bytes_fold (s : ByteArray) : bytesOf (foldS s) = glue (wgo [] (bytesOf s)) := bytes_str _ (glue_rng _ (words_ok s))
theorem fold_fold (s : ByteArray) : foldS (foldS s) = foldS s := by
  rw [foldS, bytes_fold, wgo_glue _ (words_ok s)]; rfl
theorem fold_size (s : ByteArray) : (foldS s).size ≤ s.size := by
  unfold foldS
  rw [strOfNums_size]
  have := (wgo_len (bytesOf s) []).1
  rw [bytesOf_length] at this
  simpa using this
theorem bytesOf_app (a b : ByteArray) : bytesOf (a ++ b) = bytesOf a ++ bytesOf b := by simp [bytesOf]
theorem str_app (x y : List Int) : strOfNums (x ++ y) = strOfNums x ++ strOfNums y := by
  apply ext_list; simp [strOfNums_data, ByteArray.data_append]
theorem glue_app (a b : List (List Int)) : glue (a ++ b) = if a = [] then glue b else if b = [] then glue a else glue a ++ 32 :: glue b := by
  cases a with
  | nil => simp
  | cons w r =>
    rw [if_neg (by simp)]
    cases b with
    | nil => simp
    | cons v q =>
      rw [if_neg (by simp), List.cons_append, glue_cons, glue_cons, glue_cons]
      unfold flat
      simp

/-- Single blanks between, no tab, no capital. p: what stands ahead is a blank, or nothing. -/
def neat : Bool → List Int → Prop
  | p, [] => p = false
  | p, c :: cs => if c = 32 then p = false ∧ neat true cs else okc c ∧ neat false cs
theorem neat_word : ∀ (w rest : List Int) (p : Bool), w ≠ [] → (∀ c ∈ w, okc c) → neat false rest → neat p (w ++ rest)
  | [], _, _, h, _, _ => absurd rfl h
  | c :: cs, rest, p, _, h, hr => by
    have hc := h c (List.mem_cons_self ..)
    rw [List.cons_append, neat, if_neg (by intro e; rw [e] at hc; exact absurd hc.2.2.1 (by decide))]
    refine ⟨hc, ?_⟩
    by_cases hcs : cs = []
    · subst hcs; exact hr
    · exact neat_word cs rest false hcs (fun x hx => h x (List.mem_cons_of_mem _ hx)) hr
theorem neat_flat : ∀ (r : List (List Int)), (∀ v ∈ r, okw v) → neat false (flat r)
  | [], _ => by simp [flat, neat]
  | v :: r, h => by
    have hv := h v (List.mem_cons_self ..)
    rw [flat_cons, neat, if_pos rfl]
    exact ⟨rfl, neat_word v _ true hv.1 hv.2 (neat_flat r (fun x hx => h x (List.mem_cons_of_mem _ hx)))⟩
theorem neat_glue (ws : List (List Int)) (h : ∀ v ∈ ws, okw v) : glue ws = [] ∨ neat true (glue ws) := by
  cases ws with
  | nil => exact .inl rfl
  | cons w r =>
    have hv := h w (List.mem_cons_self ..)
    exact .inr (neat_word w _ true hv.1 hv.2 (neat_flat r (fun x hx => h x (List.mem_cons_of_mem _ hx))))

theorem app_nil (s : ByteArray) : (⟨#[]⟩ : ByteArray) ++ s = s := by apply ext_list; simp
theorem nil_app (s : ByteArray) : s ++ (⟨#[]⟩ : ByteArray) = s := by apply ext_list; simp
theorem fold_nil (s : ByteArray) : (foldS s).toList = ([] : List UInt8) ↔ wgo [] (bytesOf s) = [] := by
  rw [empty_iff, foldS, strOfNums_size, List.length_eq_zero_iff]
  exact ⟨fun h => glue_len _ (fun w hw => (words_ok s w hw).1) h, fun h => by rw [h]; rfl⟩

end Go.Proofs.Ytlmhdiienpebfaa.Pure
