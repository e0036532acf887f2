/- The plain laws of LexOne and LexAgain: a word as text is read back. -/
import Derived.Test.YtimdkdengdhglaaGreatDoorLexQ
import Derived.Lib.ItoaLen
namespace Go.Proofs.YtimdkdengdhglaaGreatDoor

/-! ### Numbers -/
theorem decDigits_mem : ∀ (u : Nat) (c : UInt8), c ∈ Lib.decDigits u → 48 ≤ c.toNat ∧ c.toNat ≤ 57 := by
  intro u
  induction u using Nat.strongRecOn with
  | _ u ih =>
    intro c hc
    have key : ∀ d, d < 10 → (UInt8.ofNat (48 + d)).toNat = 48 + d := fun d hd => by simp; omega
    rw [Lib.decDigits] at hc
    split at hc
    · rename_i h
      rw [List.mem_singleton] at hc; subst hc; have := key u h; omega
    · rename_i h
      rcases List.mem_append.1 hc with h1 | h1
      · exact ih _ (by omega) c h1
      · simp only [List.mem_singleton] at h1; subst h1; have := key (u % 10) (by omega); omega
theorem decDigits_cons (u : Nat) : ∃ c r, Lib.decDigits u = c :: r ∧ 48 ≤ c.toNat ∧ c.toNat ≤ 57 := by
  cases h : Lib.decDigits u with
  | nil =>
    have := Lib.decDigits_length u
    have := Lib.nDigits_pos u
    rw [h] at *; simp at *; omega
  | cons c r => exact ⟨c, r, rfl, decDigits_mem u c (by rw [h]; simp)⟩
theorem parseUintM_snoc (M : Nat) : ∀ (l : List UInt8) (acc v : Nat) (c : UInt8), Lib.parseUintM M acc l = .ok v → 48 ≤ c.toNat → c.toNat ≤ 57 → v < 1844674407370955162 → v * 10 + (c.toNat - 48) ≤ M →
    Lib.parseUintM M acc (l ++ [c]) = .ok (v * 10 + (c.toNat - 48))
  | [], acc, v, c, h, h1, h2, h3, h4 => by
    simp [Lib.parseUintM] at h; subst h
    rw [List.nil_append, Lib.parseUintM, if_pos ⟨h1, h2⟩, if_neg (by omega), if_neg (by omega), Lib.parseUintM]
  | d :: r, acc, v, c, h, h1, h2, h3, h4 => by
    rw [Lib.parseUintM] at h
    rw [List.cons_append, Lib.parseUintM]
    split at h
    · rename_i hd
      rw [if_pos hd]
      split at h
      · simp at h
      · rename_i hn; rw [if_neg hn]
        split at h
        · simp at h
        · rename_i hm; rw [if_neg hm]; exact parseUintM_snoc M r _ v c h h1 h2 h3 h4
    · simp at h
theorem parseUintM_dec : ∀ u : Nat, u ≤ 18446744073709551615 → Lib.parseUintM 18446744073709551615 0 (Lib.decDigits u) = .ok u := by
  intro u
  induction u using Nat.strongRecOn with
  | _ u ih =>
    intro hu
    have key : ∀ d, d < 10 → (UInt8.ofNat (48 + d)).toNat = 48 + d := fun d hd => by simp; omega
    rw [Lib.decDigits]
    split
    · rename_i h
      have := key u h
      rw [Lib.parseUintM, if_pos (by omega), if_neg (by omega), if_neg (by omega), Lib.parseUintM, this]; congr 1; omega
    · rename_i h
      have hk := key (u % 10) (by omega)
      have := parseUintM_snoc 18446744073709551615 (Lib.decDigits (u / 10)) 0 (u / 10) (UInt8.ofNat (48 + u % 10)) (ih (u / 10) (by omega) (by omega)) (by omega) (by omega) (by omega) (by rw [hk]; omega)
      rw [this, hk]; congr 1; omega
theorem parseIntB_itoa (n : Int) (h0 : -9223372036854775808 ≤ n) (h1 : n ≤ 9223372036854775807) : Lib.parseIntB 64 (Lib.itoa n) = .ok n := by
  unfold Lib.itoa
  split
  · rename_i hn
    have hp := parseUintM_dec n.natAbs (by omega)
    obtain ⟨c, r, hc, _, _⟩ := decDigits_cons n.natAbs
    unfold Lib.parseIntB
    simp only [show (45 : UInt8).toNat = 45 from rfl, or_true, if_true]
    unfold Lib.parseUintB
    rw [if_neg (by rw [hc]; simp), show (2 ^ 64 - 1 : Nat) = 18446744073709551615 from rfl, hp]
    simp only [not_true_eq_false, false_and, if_false, true_and]
    rw [if_neg (by omega)]; congr 1; omega
  · rename_i hn
    have hp := parseUintM_dec n.toNat (by omega)
    obtain ⟨c, r, hc, h2, h3⟩ := decDigits_cons n.toNat
    rw [hc] at hp ⊢
    unfold Lib.parseIntB
    have n45 : ¬ (c.toNat = 45) := by omega
    have n43 : ¬ (c.toNat = 43) := by omega
    simp only [n45, n43, or_false, if_false]
    unfold Lib.parseUintB
    rw [if_neg (by simp), show (2 ^ 64 - 1 : Nat) = 18446744073709551615 from rfl, hp]
    simp only [not_false_eq_true, true_and, false_and, if_false]
    rw [if_neg (by omega)]; congr 1; omega
theorem parseIntB_range (l : List UInt8) (n : Int) (h : Lib.parseIntB 64 l = .ok n) : -9223372036854775808 ≤ n ∧ n ≤ 9223372036854775807 := by
  unfold Lib.parseIntB at h
  split at h
  · simp at h
  · simp only at h
    split at h
    · simp at h
    · simp at h
    · split at h
      · simp at h
      · split at h
        · simp at h
        · simp at h
          split at h <;> omega
theorem numL_itoa (n : Int) (h0 : -9223372036854775808 ≤ n) (h1 : n ≤ 9223372036854775807) : numL (Lib.itoa n) = some n := by
  unfold numL
  rw [parseIntB_itoa n h0 h1]
  simp
theorem kind_digit {c : UInt8} (h1 : 48 ≤ c.toNat) (h2 : c.toNat ≤ 57) : kindOf c = 2 := by
  unfold kindOf
  rw [if_neg (by omega), if_pos ⟨h1, h2⟩]
theorem part_digit {c : UInt8} (h1 : 48 ≤ c.toNat) (h2 : c.toNat ≤ 57) : part c = true := by simp [part, kind_digit h1 h2]
theorem itoa_part (n : Int) : ∀ c ∈ Lib.itoa n, part c = true := by
  intro c hc
  unfold Lib.itoa at hc
  split at hc
  · rcases List.mem_cons.1 hc with rfl | h
    · decide
    · have := decDigits_mem _ c h; exact part_digit this.1 this.2
  · have := decDigits_mem _ c hc; exact part_digit this.1 this.2
theorem isNum_of {s : List UInt8} {c : UInt8} {r : List UInt8} (h : Lib.trimPrefix s [45] = c :: r) : isNum s = (kindOf c == 2) := by
  unfold isNum; rw [h]
theorem itoa_isNum (n : Int) : isNum (Lib.itoa n) = true := by
  unfold Lib.itoa
  split
  · obtain ⟨c, r, hc, h1, h2⟩ := decDigits_cons n.natAbs
    rw [hc, isNum_of (c := c) (r := r) (by simp [Lib.trimPrefix, Lib.hasPrefix, List.isPrefixOf]), kind_digit h1 h2]; rfl
  · obtain ⟨c, r, hc, h1, h2⟩ := decDigits_cons n.toNat
    have : c ≠ 45 := by rintro rfl; simp at h1
    have h3 : ((45 : UInt8) == c) = false := by simpa using this.symm
    rw [hc, isNum_of (c := c) (r := r) (by simp [Lib.trimPrefix, Lib.hasPrefix, List.isPrefixOf, h3]), kind_digit h1 h2]; rfl

/-! ### Quoted texts -/
def escL : List UInt8 → List UInt8
  | [] => []
  | c :: r => (if c = 34 ∨ c = 92 then [92, c] else if c = 10 then [92, 110] else [c]) ++ escL r
def quoteL (s : List UInt8) : List UInt8 := 34 :: (escL s ++ [34])
theorem escL_append (a b : List UInt8) : escL (a ++ b) = escL a ++ escL b := by
  induction a with
  | nil => rfl
  | cons c r ih => simp only [List.cons_append, escL, ih, List.append_assoc]
theorem escL_len (a : List UInt8) : (escL a).length ≤ 2 * a.length := by
  induction a with
  | nil => simp [escL]
  | cons c r ih => simp only [escL, List.length_append, List.length_cons]; split; · simp; omega
                   split <;> simp <;> omega
theorem textL_escL (s r acc : List UInt8) : textL false (escL s ++ 34 :: r) acc = some (acc ++ s, r) := by
  induction s generalizing acc with
  | nil => rw [escL, List.nil_append, textL_quote, List.append_nil]
  | cons c t ih =>
    rw [escL]
    by_cases h1 : c = 34 ∨ c = 92
    · rw [if_pos h1]
      show textL false (92 :: c :: (escL t ++ 34 :: r)) acc = _
      rw [textL_esc _ _ _ h1, ih, List.append_assoc]; rfl
    · rw [if_neg h1]
      by_cases h2 : c = 10
      · rw [if_pos h2]
        show textL false (92 :: 110 :: (escL t ++ 34 :: r)) acc = _
        rw [textL_nl, ih, List.append_assoc, h2]; rfl
      · rw [if_neg h2]
        show textL false (c :: (escL t ++ 34 :: r)) acc = _
        rw [textL, if_neg (fun e => h1 (.inl e)), if_neg h2, if_neg (fun e => h1 (.inr e)), ih, List.append_assoc]; rfl

/-! ### Words -/
/-- What is behind a word: nothing, or no part of a name. -/
def Ends (r : List UInt8) : Prop := ∀ c t, r = c :: t → part c = false
theorem tw_ends (s r : List UInt8) (hs : ∀ c ∈ s, part c = true) (hr : Ends r) : (s ++ r).takeWhile part = s ∧ (s ++ r).dropWhile part = r := by
  induction s with
  | nil =>
    cases r with
    | nil => exact ⟨rfl, rfl⟩
    | cons c t => have := hr c t rfl; simp [List.takeWhile_cons, List.dropWhile_cons, this]
  | cons c t ih =>
    have h1 := hs c (by simp)
    obtain ⟨h2, h3⟩ := ih fun d hd => hs d (by simp [hd])
    simp [List.takeWhile_cons, List.dropWhile_cons, h1, h2, h3]
theorem part_not {c : UInt8} (h : part c = true) : c ≠ 40 ∧ c ≠ 41 ∧ c ≠ 34 ∧ c ≠ 59 ∧ idle c = false := by
  refine ⟨?_, ?_, ?_, ?_, ?_⟩
  · rintro rfl; exact absurd h (by decide)
  · rintro rfl; exact absurd h (by decide)
  · rintro rfl; exact absurd h (by decide)
  · rintro rfl; exact absurd h (by decide)
  · simp only [part, decide_eq_true_eq] at h
    simp [idle]; omega
theorem wordL_part (s r : List UInt8) (hs : ∀ c ∈ s, part c = true) (h0 : s ≠ []) : wordL (s ++ r) = restL (s ++ r) := by
  cases s with
  | nil => exact absurd rfl h0
  | cons c t =>
    have h := part_not (hs c (by simp))
    rw [List.cons_append, wordL, if_neg h.1, if_neg h.2.1, if_neg h.2.2.1]

/-- A word that Words gives. -/
def Good (x : Wd) : Prop :=
  (x.1 = 4 ∧ x.2.1 = [] ∧ x.2.2.1 = 0) ∨ (x.1 = 5 ∧ x.2.1 = [] ∧ x.2.2.1 = 0) ∨
  (x.1 = 2 ∧ x.2.1 = [] ∧ -9223372036854775808 ≤ x.2.2.1 ∧ x.2.2.1 ≤ 9223372036854775807) ∨
  (x.1 = 3 ∧ x.2.2.1 = 0 ∧ x.2.1.length ≤ 4096) ∨
  (x.1 = 1 ∧ x.2.2.1 = 0 ∧ x.2.1 ≠ [] ∧ x.2.1.length ≤ 4096 ∧ isNum x.2.1 = false ∧ ∀ c ∈ x.2.1, part c = true)
/-- told. -/
def toldL (x : Wd) : List UInt8 := if x.1 = 4 then [40] else if x.1 = 5 then [41] else if x.1 = 2 then Lib.itoa x.2.2.1 else if x.1 = 3 then quoteL x.2.1 else x.2.1

theorem itoa_ne (n : Int) : Lib.itoa n ≠ [] := by
  intro e
  have := itoa_isNum n
  rw [e] at this
  exact absurd this (by decide)
theorem wordL_itoa (n : Int) (h0 : -9223372036854775808 ≤ n) (h1 : n ≤ 9223372036854775807) (r : List UInt8) (hr : Ends r) : wordL (Lib.itoa n ++ r) = some (2, [], n, r) := by
  rw [wordL_part _ _ (itoa_part n) (itoa_ne n)]
  obtain ⟨a, b⟩ := tw_ends (Lib.itoa n) r (itoa_part n) hr
  unfold restL
  rw [a, b, if_pos (itoa_isNum n), numL_itoa n h0 h1]; rfl
theorem wordL_quote (s r : List UInt8) (hs : s.length ≤ 4096) : wordL (quoteL s ++ r) = some (3, s, 0, r) := by
  show wordL (34 :: (escL s ++ [34] ++ r)) = _
  rw [List.append_assoc]
  show wordL (34 :: (escL s ++ 34 :: r)) = _
  rw [wordL, if_neg (by decide), if_neg (by decide), if_pos rfl, textL_escL]
  simp [hs]
theorem wordL_told (x : Wd) (h : Good x) (r : List UInt8) (hr : x.1 < 3 → Ends r) : wordL (toldL x ++ r) = some (x.1, x.2.1, x.2.2.1, r) := by
  obtain ⟨k, s, n, ln⟩ := x
  simp only [Good] at h
  unfold toldL
  rcases h with ⟨rfl, rfl, rfl⟩ | ⟨rfl, rfl, rfl⟩ | ⟨rfl, rfl, h1, h2⟩ | ⟨rfl, rfl, h1⟩ | ⟨rfl, rfl, h1, h2, h3, h4⟩
  · rfl
  · rfl
  · exact wordL_itoa n h1 h2 r (hr (by show _ < 3; simp))
  · exact wordL_quote s r h1
  · show wordL (s ++ r) = _
    rw [wordL_part _ _ h4 h1]
    obtain ⟨a, b⟩ := tw_ends s r h4 (hr (by show _ < 3; simp))
    unfold restL
    rw [a, b, if_neg (by simp [h3]), if_pos ⟨h1, h2⟩]
/-- A told word begins with nothing that skip passes. -/
theorem told_head (x : Wd) (h : Good x) : ∃ c t, toldL x = c :: t ∧ idle c = false ∧ c ≠ 59 := by
  have hp : ∀ s : List UInt8, s ≠ [] → (∀ c ∈ s, part c = true) → ∃ c t, s = c :: t ∧ idle c = false ∧ c ≠ 59 := fun s h0 hs => by
    cases s with
    | nil => exact absurd rfl h0
    | cons c t => have := part_not (hs c (by simp)); exact ⟨c, t, rfl, this.2.2.2.2, this.2.2.2.1⟩
  obtain ⟨k, s, n, ln⟩ := x
  simp only [Good] at h
  unfold toldL
  rcases h with ⟨rfl, rfl, rfl⟩ | ⟨rfl, rfl, rfl⟩ | ⟨rfl, rfl, h1, h2⟩ | ⟨rfl, rfl, h1⟩ | ⟨rfl, rfl, h1, h2, h3, h4⟩
  · exact ⟨40, [], rfl, by decide, by decide⟩
  · exact ⟨41, [], rfl, by decide, by decide⟩
  · exact hp _ (itoa_ne n) (itoa_part n)
  · exact ⟨34, _, rfl, by decide, by decide⟩
  · exact hp s h1 h4
theorem skipL_told (x : Wd) (h : Good x) (r : List UInt8) (ln : Nat) : skipL (toldL x ++ r) ln = (toldL x ++ r, ln) := by
  obtain ⟨c, t, e, h1, h2⟩ := told_head x h
  rw [e, List.cons_append]
  exact skipL_stop _ _ (by simp [List.dropWhile_cons, h1]) (by simp [h2])

/-! ### LexOne -/
def tabs : Nat → List UInt8
  | 0 => []
  | k + 1 => tabs k ++ [9, 32, 10]
theorem tabs_len (k : Nat) : (tabs k).length = 3 * k := by
  induction k with
  | zero => rfl
  | succ k ih => rw [tabs, List.length_append, ih]; simp; omega
theorem skipL_tabs (k : Nat) : ∀ (l : List UInt8) (ln : Nat), skipL (tabs k ++ l) ln = skipL l (ln + k) := by
  induction k with
  | zero => intro l ln; rfl
  | succ k ih =>
    intro l ln
    rw [tabs, List.append_assoc, ih]
    show skipL (9 :: 32 :: 10 :: l) _ = _
    rw [skipL, if_neg (by decide), if_pos (by simp), skipL, if_neg (by decide), if_pos (by simp), skipL, if_pos rfl]
    congr 1
def aheadL : List UInt8 := [59, 32, 115, 111, 32, 40, 105, 116, 41, 32, 34, 105, 115, 34, 10]
theorem skipL_ahead (l : List UInt8) (ln : Nat) : skipL (aheadL ++ l) ln = skipL l (ln + 1) := by
  show skipL (59 :: ([32, 115, 111, 32, 40, 105, 116, 41, 32, 34, 105, 115, 34, 10] ++ l)) ln = _
  rw [skipL_rem]
  have : ([32, 115, 111, 32, 40, 105, 116, 41, 32, 34, 105, 115, 34, 10] ++ l).dropWhile (· != 10) = 10 :: l := by
    simp [List.dropWhile_cons]
  rw [this, skipL, if_pos rfl]
def oneL (n : Int) (s : List UInt8) (k : Nat) : List UInt8 := aheadL ++ tabs k ++ Lib.itoa n ++ quoteL s ++ [40] ++ Lib.itoa n ++ [59]
def oneW (n : Int) (s : List UInt8) (k : Nat) : List Wd := [(2, [], n, k + 1), (3, s, 0, k + 1), (4, [], 0, k + 1), (2, [], n, k + 1)]
theorem ends_cons {c : UInt8} {t : List UInt8} (h : part c = false) : Ends (c :: t) := by
  intro d u e; simp at e; rw [← e.1]; exact h
theorem wordsGo_step (f : Nat) (x : Wd) (hx : Good x) (r : List UInt8) (hr : x.1 < 3 → Ends r) (ln : Nat) (acc : List Wd) :
    wordsGo (f + 1) (toldL x ++ r) ln acc = wordsGo f (skipL r ln).1 (skipL r ln).2 (acc ++ [(x.1, x.2.1, x.2.2.1, ln)]) := by
  obtain ⟨c, t, e, _, _⟩ := told_head x hx
  have hw := wordL_told x hx r hr
  rw [e, List.cons_append] at hw ⊢
  rw [wordsGo, hw]
theorem words_one (n : Int) (s : List UInt8) (k : Nat) (h0 : -9223372036854775808 ≤ n) (h1 : n ≤ 9223372036854775807) (hs : s.length ≤ 4096) (hk : k ≤ 255) :
    wordsL (oneL n s k) = .ok (oneW n s k) := by
  have hI : Good (2, [], n, k + 1) := .inr (.inr (.inl ⟨rfl, rfl, h0, h1⟩))
  have hT : Good (3, s, 0, k + 1) := .inr (.inr (.inr (.inl ⟨rfl, rfl, hs⟩)))
  have hO : Good (4, [], 0, k + 1) := .inl ⟨rfl, rfl, rfl⟩
  have e : oneL n s k = aheadL ++ (tabs k ++ (toldL (2, [], n, k + 1) ++ (toldL (3, s, 0, k + 1) ++ (toldL (4, [], 0, k + 1) ++ (toldL (2, [], n, k + 1) ++ [59]))))) := by
    unfold oneL; simp only [List.append_assoc]; rfl
  have hl : (oneL n s k).length ≤ 65536 := by
    unfold oneL quoteL
    have := tabs_len k
    have := escL_len s
    have := Lib.itoa_length_le n h0 h1
    simp only [List.length_append, List.length_cons, List.length_nil, show aheadL.length = 15 from rfl]
    omega
  have hf : 5 ≤ (oneL n s k).length := by unfold oneL; simp only [List.length_append, show aheadL.length = 15 from rfl]; omega
  have hEQ : ∀ r : List UInt8, Ends (toldL (3, s, 0, k + 1) ++ r) := fun r => by
    rw [show toldL (3, s, 0, k + 1) = quoteL s from rfl]
    exact ends_cons (c := 34) (t := escL s ++ [34] ++ r) (by decide)
  unfold wordsL
  rw [if_neg (by omega)]
  obtain ⟨f, hf⟩ : ∃ f, (oneL n s k).length + 1 = f + 1 + 1 + 1 + 1 := ⟨(oneL n s k).length - 3, by omega⟩
  rw [hf, e, skipL_ahead, skipL_tabs, skipL_told _ hI]
  simp only [show 0 + 1 + k = k + 1 by omega]
  rw [wordsGo_step _ _ hI _ (fun _ => hEQ _), skipL_told _ hT,
    wordsGo_step _ _ hT _ (fun h => absurd h (by simp)), skipL_told _ hO,
    wordsGo_step _ _ hO _ (fun h => absurd h (by simp)), skipL_told _ hI, wordsGo_step _ _ hI _ (fun _ => ends_cons (by decide))]
  have : skipL [59] (k + 1) = ([], k + 1) := by rw [skipL_rem, List.dropWhile_nil, skipL]
  rw [this]
  have hnil : ∀ acc : List Wd, wordsGo f [] (k + 1) acc = .ok acc := fun acc => by cases f <;> rfl
  show (match wordsGo f [] (k + 1) _ with | .ok ws => Except.ok ws | .error ln => .error (ln, 4)) = _
  rw [hnil]; rfl
end Go.Proofs.YtimdkdengdhglaaGreatDoor
