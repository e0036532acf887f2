/- The plain law of LexAgain: the words of a text, written with single blanks between them, are the same words. -/
import Derived.Test.YtimdkdengdhglaaDoorLexR
namespace Go.Proofs.YtimdkdengdhglaaDoor

/-! ### LexAgain -/
def tailL (l : List Wd) : List UInt8 := l.flatMap fun x => 32 :: toldL x
def joinedL : List Wd → List UInt8
  | [] => []
  | x :: l => toldL x ++ tailL l
def zeroW (x : Wd) : Wd := (x.1, x.2.1, x.2.2.1, 0)
theorem joinedL_snoc (l : List Wd) (x : Wd) : joinedL (l ++ [x]) = joinedL l ++ (if l = [] then [] else [32]) ++ toldL x := by
  cases l with
  | nil => simp [joinedL, tailL]
  | cons y t => simp [joinedL, tailL]
theorem joinedL_take (l : List Wd) (k : Nat) (h : k < l.length) : joinedL (l.take (k + 1)) = joinedL (l.take k) ++ (if k = 0 then [] else [32]) ++ toldL l[k] := by
  rw [List.take_succ_eq_append_getElem h, joinedL_snoc]
  congr 2
  cases k with
  | zero => simp
  | succ k => rw [if_neg (by simp; intro e; subst e; simp at h), if_neg (by omega)]
theorem told_len (x : Wd) (h : Good x) : (toldL x).length ≤ 8194 := by
  obtain ⟨k, s, n, ln⟩ := x
  simp only [Good] at h
  unfold toldL
  rcases h with ⟨rfl, rfl, rfl⟩ | ⟨rfl, rfl, rfl⟩ | ⟨rfl, rfl, h1, h2⟩ | ⟨rfl, rfl, h1⟩ | ⟨rfl, rfl, h1, h2, h3, h4⟩
  · simp
  · simp
  · have := Lib.itoa_length_le n h1 h2; simp; omega
  · have := escL_len s; simp [quoteL]; omega
  · simp; omega
theorem ends_tail (l : List Wd) : Ends (tailL l) := by
  cases l with
  | nil => intro c t e; simp [tailL] at e
  | cons x l => exact ends_cons (c := 32) (t := toldL x ++ tailL l) (by decide)
theorem wordsGo_again (l : List Wd) : ∀ (x : Wd) (f : Nat) (acc : List Wd), l.length + 1 < f → Good x → (∀ y ∈ l, Good y) → wordsGo f (toldL x ++ tailL l) 0 acc = .ok (acc ++ (x :: l).map zeroW) := by
  induction l with
  | nil =>
    intro x f acc hf hx _
    obtain ⟨f, rfl⟩ : ∃ g, f = g + 1 + 1 := ⟨f - 2, by simp at hf; omega⟩
    rw [wordsGo_step _ x hx _ (fun _ => ends_tail _)]
    have : skipL (tailL []) 0 = ([], 0) := by rw [show tailL [] = [] from rfl, skipL]
    rw [this]
    rfl
  | cons y l ih =>
    intro x f acc hf hx hl
    obtain ⟨f, rfl⟩ : ∃ g, f = g + 1 := ⟨f - 1, by simp at hf; omega⟩
    have hy := hl y (by simp)
    rw [wordsGo_step _ x hx _ (fun _ => ends_tail _)]
    have : skipL (tailL (y :: l)) 0 = (toldL y ++ tailL l, 0) := by
      show skipL (32 :: (toldL y ++ tailL l)) 0 = _
      rw [skipL, if_neg (by decide), if_pos (by simp), skipL_told y hy]
    rw [this, ih y f _ (by simp at hf; omega) hy (fun z hz => hl z (by simp [hz]))]
    simp [zeroW]
theorem told_pos (x : Wd) (h : Good x) : 1 ≤ (toldL x).length := by
  obtain ⟨c, t, e, _, _⟩ := told_head x h
  rw [e]; simp
theorem tail_len (l : List Wd) : l.length ≤ (tailL l).length := by
  induction l with
  | nil => simp
  | cons x l ih =>
    have : (tailL (x :: l)).length = 1 + (toldL x).length + (tailL l).length := by simp [tailL]; omega
    simp; omega
theorem words_again (l : List Wd) (h : ∀ x ∈ l, Good x) (hl : (joinedL l).length ≤ 65536) : wordsL (joinedL l) = .ok (l.map zeroW) := by
  unfold wordsL
  rw [if_neg (by omega)]
  cases l with
  | nil => rw [show joinedL [] = [] from rfl, skipL]; rfl
  | cons x l =>
    have hx := h x (by simp)
    show (match wordsGo ((toldL x ++ tailL l).length + 1) (skipL (toldL x ++ tailL l) 0).1 (skipL (toldL x ++ tailL l) 0).2 [] with | .ok ws => Except.ok ws | .error ln => .error (ln, 4)) = _
    rw [skipL_told x hx]
    have h1 := told_pos x hx
    have h2 := tail_len l
    rw [wordsGo_again l x _ [] (by rw [List.length_append]; omega) hx (fun y hy => h y (by simp [hy]))]
    rfl
theorem wordL_good (l : List UInt8) {k : Nat} {s : List UInt8} {n : Int} {m : List UInt8} (ln : Nat) (h : wordL l = some (k, s, n, m)) : Good (k, s, n, ln) := by
  cases l with
  | nil => simp [wordL] at h
  | cons c r =>
    rw [wordL] at h
    split at h
    · simp at h; obtain ⟨rfl, rfl, rfl, _⟩ := h; exact .inl ⟨rfl, rfl, rfl⟩
    · split at h
      · simp at h; obtain ⟨rfl, rfl, rfl, _⟩ := h; exact .inr (.inl ⟨rfl, rfl, rfl⟩)
      · split at h
        · cases hx : textL false r [] with
          | none => simp [hx] at h
          | some x =>
            simp only [hx, Option.bind_some] at h
            split at h
            · rename_i hl; simp at h; obtain ⟨rfl, rfl, rfl, _⟩ := h; exact .inr (.inr (.inr (.inl ⟨rfl, rfl, hl⟩)))
            · simp at h
        · unfold restL at h
          split at h
          · cases hv : numL ((c :: r).takeWhile part) with
            | none => simp [hv] at h
            | some v =>
              simp [hv] at h; obtain ⟨rfl, rfl, rfl, _⟩ := h
              unfold numL at hv
              split at hv
              · rename_i u hp
                split at hv
                · simp at hv; subst hv; exact .inr (.inr (.inl ⟨rfl, rfl, parseIntB_range _ _ hp⟩))
                · simp at hv
              · simp at hv
          · rename_i hn
            split at h
            · rename_i h2; simp at h; obtain ⟨rfl, rfl, rfl, _⟩ := h
              exact .inr (.inr (.inr (.inr ⟨rfl, rfl, h2.1, h2.2, by simpa using hn, fun d hd => tw_all part _ d hd⟩)))
            · simp at h
/-- No line falls. -/
def Rise (l : List Wd) : Prop := ∀ (i : Nat) (h : i + 1 < l.length), (l[i]'(by omega)).2.2.2 ≤ (l[i + 1]).2.2.2
theorem skipL_mono (l : List UInt8) (ln : Nat) : ln ≤ (skipL l ln).2 := by
  fun_induction skipL l ln with
  | case1 => exact Nat.le_refl _
  | case2 r ln ih => omega
  | case3 c r ln h1 h2 ih => omega
  | case4 r ln h1 h2 ih => omega
  | case5 c r ln h1 h2 h3 => exact Nat.le_refl _
theorem rise_snoc (l : List Wd) (x : Wd) (h : Rise l) (hx : ∀ y ∈ l, y.2.2.2 ≤ x.2.2.2) : Rise (l ++ [x]) := by
  intro i hi
  simp at hi
  by_cases h1 : i + 1 < l.length
  · rw [List.getElem_append_left (by omega), List.getElem_append_left h1]; exact h i h1
  · rw [List.getElem_append_left (by omega), List.getElem_append_right (by omega)]
    simp only [show i + 1 - l.length = 0 by omega, List.getElem_cons_zero]
    exact hx _ (List.getElem_mem _)
theorem wordsGo_good : ∀ (f : Nat) (l : List UInt8) (ln : Nat) (acc ws : List Wd), wordsGo f l ln acc = .ok ws → (∀ x ∈ acc, Good x) → Rise acc → (∀ x ∈ acc, x.2.2.2 ≤ ln) → (∀ x ∈ ws, Good x) ∧ Rise ws
  | 0, l, ln, acc, ws, h, h1, h2, h3 => by simp [wordsGo] at h; subst h; exact ⟨h1, h2⟩
  | f + 1, l, ln, acc, ws, h, h1, h2, h3 => by
    cases l with
    | nil => simp [wordsGo] at h; subst h; exact ⟨h1, h2⟩
    | cons c r =>
      unfold wordsGo at h
      cases hx : wordL (c :: r) with
      | none => simp [hx] at h
      | some x =>
        obtain ⟨k, s, n, m⟩ := x
        simp only [hx] at h
        have hg := wordL_good (c :: r) ln hx
        have hm := skipL_mono m ln
        refine wordsGo_good f _ _ _ _ h ?_ (rise_snoc acc _ h2 h3) ?_
        · intro y hy
          rcases List.mem_append.1 hy with h4 | h4
          · exact h1 y h4
          · simp at h4; subst h4; exact hg
        · intro y hy
          rcases List.mem_append.1 hy with h4 | h4
          · exact Nat.le_trans (h3 y h4) hm
          · simp at h4; subst h4; exact hm
theorem wordsL_good (l : List UInt8) (ws : List Wd) (h : wordsL l = .ok ws) : (∀ x ∈ ws, Good x) ∧ Rise ws := by
  unfold wordsL at h
  split at h
  · simp at h
  · split at h
    · rename_i hg; simp at h; subst h
      exact wordsGo_good _ _ _ _ _ hg (by simp) (fun i hi => by simp at hi) (by simp)
    · simp at h
end Go.Proofs.YtimdkdengdhglaaDoor
