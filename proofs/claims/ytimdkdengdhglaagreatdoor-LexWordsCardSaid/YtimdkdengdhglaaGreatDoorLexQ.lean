/- The plain law of LexJoins: the words of two texts with a line's end between them. -/
import Derived.Test.YtimdkdengdhglaaGreatDoorLexG
namespace Go.Proofs.YtimdkdengdhglaaGreatDoor

abbrev Wd := Nat × List UInt8 × Int × Nat
def shiftW (d : Nat) (x : Wd) : Wd := (x.1, x.2.1, x.2.2.1, x.2.2.2 + d)
/-- How many lines end. -/
def cnt (l : List UInt8) : Nat := (l.filter (· == 10)).length
theorem cnt_cons (c : UInt8) (r : List UInt8) : cnt (c :: r) = (if c = 10 then 1 else 0) + cnt r := by
  by_cases h : c = 10 <;> simp [cnt, List.filter_cons, h]; omega
theorem cnt_append (a b : List UInt8) : cnt (a ++ b) = cnt a + cnt b := by simp [cnt]
theorem cnt_dw (p : UInt8 → Bool) (hp : p 10 = false) (l : List UInt8) : cnt (l.dropWhile p) = cnt l := by
  induction l with
  | nil => rfl
  | cons c r ih =>
    by_cases hc : p c = true
    · have : c ≠ 10 := by rintro rfl; simp [hp] at hc
      simp [List.dropWhile_cons, hc, ih, cnt_cons, this]
    · simp [List.dropWhile_cons, hc]
theorem cnt_le (l : List UInt8) : cnt l ≤ l.length := List.length_filter_le _ _

theorem skipL_shift (l : List UInt8) (ln d : Nat) : skipL l (ln + d) = ((skipL l ln).1, (skipL l ln).2 + d) := by
  fun_induction skipL l ln with
  | case1 => rw [skipL]
  | case2 r ln ih => rw [skipL, if_pos rfl, ← ih]; congr 1; omega
  | case3 c r ln h1 h2 ih => rw [skipL, if_neg h1, if_pos h2, ih]
  | case4 r ln h1 h2 ih => rw [skipL, if_neg h1, if_neg h2, if_pos rfl, ih]
  | case5 c r ln h1 h2 h3 => rw [skipL, if_neg h1, if_neg h2, if_neg h3]
theorem skipL_cnt (l : List UInt8) (ln : Nat) : cnt (skipL l ln).1 + (skipL l ln).2 = cnt l + ln := by
  fun_induction skipL l ln with
  | case1 => rfl
  | case2 r ln ih => rw [ih, cnt_cons, if_pos rfl]; omega
  | case3 c r ln h1 h2 ih => rw [ih, cnt_cons, if_neg h1]; omega
  | case4 r ln h1 h2 ih => rw [ih, cnt_cons, if_neg (by decide), cnt_dw _ (by decide)]; omega
  | case5 c r ln h1 h2 h3 => rfl
theorem dw_app (p : UInt8 → Bool) (hp : p 10 = false) (l b : List UInt8) : (l ++ 10 :: b).dropWhile p = l.dropWhile p ++ 10 :: b := by
  induction l with
  | nil => simp [List.dropWhile_cons, hp]
  | cons c r ih => by_cases hc : p c = true <;> simp [List.dropWhile_cons, hc, ih]
theorem tw_app (p : UInt8 → Bool) (hp : p 10 = false) (l b : List UInt8) : (l ++ 10 :: b).takeWhile p = l.takeWhile p := by
  induction l with
  | nil => simp [List.takeWhile_cons, hp]
  | cons c r ih => by_cases hc : p c = true <;> simp [List.takeWhile_cons, hc, ih]

/-- Where the joined text stands where the first one's rest is l. -/
def joinSt (l : List UInt8) (ln : Nat) (b : List UInt8) : List UInt8 × Nat := if l = [] then skipL b (ln + 1) else (l ++ 10 :: b, ln)
theorem skipL_app (l : List UInt8) (ln : Nat) (b : List UInt8) : skipL (l ++ 10 :: b) ln = joinSt (skipL l ln).1 (skipL l ln).2 b := by
  fun_induction skipL l ln with
  | case1 => rw [List.nil_append, skipL, if_pos rfl]; rfl
  | case2 r ln ih => rw [List.cons_append, skipL, if_pos rfl, ih]
  | case3 c r ln h1 h2 ih => rw [List.cons_append, skipL, if_neg h1, if_pos h2, ih]
  | case4 r ln h1 h2 ih => rw [List.cons_append, skipL, if_neg h1, if_neg h2, if_pos rfl, dw_app _ (by decide), ih]
  | case5 c r ln h1 h2 h3 => rw [List.cons_append, skipL, if_neg h1, if_neg h2, if_neg h3]; rfl

theorem textL_app : ∀ (f : Bool) (l acc b : List UInt8), textL f (l ++ 10 :: b) acc = (textL f l acc).map fun x => (x.1, x.2 ++ 10 :: b)
  | false, [], acc, b => by rw [List.nil_append, textL, textL, if_neg (by decide), if_pos rfl]; rfl
  | true, [], acc, b => by rw [List.nil_append, textL, textL]; rfl
  | true, d :: r, acc, b => by
    rw [List.cons_append, textL, textL]
    cases he : escOf d with
    | none => rfl
    | some e => simp only [Option.bind_some]; exact textL_app false r _ b
  | false, c :: r, acc, b => by
    rw [List.cons_append, textL, textL]
    split
    · rfl
    · split
      · rfl
      · split
        · exact textL_app true r _ b
        · exact textL_app false r _ b
theorem textL_cnt : ∀ (f : Bool) (l acc t r : List UInt8), textL f l acc = some (t, r) → cnt r = cnt l
  | _, [], acc, t, r, h => by simp [textL] at h
  | true, d :: m, acc, t, r, h => by
    rw [textL] at h
    have hd : d ≠ 10 := by rintro rfl; simp [escOf] at h
    cases he : escOf d with
    | none => simp [he] at h
    | some e =>
      simp only [he, Option.bind_some] at h
      rw [textL_cnt false m _ t r h, cnt_cons, if_neg hd]; omega
  | false, c :: m, acc, t, r, h => by
    rw [textL] at h
    split at h
    · rename_i h1; subst h1; simp at h; obtain ⟨rfl, rfl⟩ := h; rw [cnt_cons, if_neg (by decide)]; omega
    · split at h
      · simp at h
      · rename_i h2
        rw [cnt_cons, if_neg h2]
        split at h
        · rw [textL_cnt true m _ t r h]; omega
        · rw [textL_cnt false m _ t r h]; omega

theorem part10 : part 10 = false := by decide
theorem restL_app (l b : List UInt8) : restL (l ++ 10 :: b) = (restL l).map fun x => (x.1, x.2.1, x.2.2.1, x.2.2.2 ++ 10 :: b) := by
  unfold restL
  rw [tw_app part part10, dw_app part part10]
  split
  · cases numL (l.takeWhile part) <;> rfl
  · split <;> rfl
theorem wordL_app (l b : List UInt8) (h : l ≠ []) : wordL (l ++ 10 :: b) = (wordL l).map fun x => (x.1, x.2.1, x.2.2.1, x.2.2.2 ++ 10 :: b) := by
  cases l with
  | nil => exact absurd rfl h
  | cons c r =>
    rw [List.cons_append, wordL, wordL]
    split
    · rfl
    · split
      · rfl
      · split
        · rw [textL_app]
          cases textL false r [] with
          | none => rfl
          | some x => simp only [Option.map_some, Option.bind_some]; split <;> rfl
        · exact restL_app (c :: r) b
theorem restL_cnt (l : List UInt8) {k : Nat} {s : List UInt8} {n : Int} {m : List UInt8} (h : restL l = some (k, s, n, m)) : cnt m = cnt l := by
  unfold restL at h
  split at h
  · cases hv : numL (l.takeWhile part) with
    | none => simp [hv] at h
    | some v => simp [hv] at h; obtain ⟨_, _, _, rfl⟩ := h; exact cnt_dw part part10 l
  · split at h
    · simp at h; obtain ⟨_, _, _, rfl⟩ := h; exact cnt_dw part part10 l
    · simp at h
theorem wordL_cnt (l : List UInt8) {k : Nat} {s : List UInt8} {n : Int} {m : List UInt8} (h : wordL l = some (k, s, n, m)) : cnt m = cnt l := by
  cases l with
  | nil => simp [wordL] at h
  | cons c r =>
    rw [wordL] at h
    split at h
    · rename_i h1; subst h1; simp at h; obtain ⟨_, _, _, rfl⟩ := h; rw [cnt_cons, if_neg (by decide)]; omega
    · split at h
      · rename_i h1; subst h1; simp at h; obtain ⟨_, _, _, rfl⟩ := h; rw [cnt_cons, if_neg (by decide)]; omega
      · split at h
        · rename_i h1; subst h1
          cases hx : textL false r [] with
          | none => simp [hx] at h
          | some x =>
            simp only [hx, Option.bind_some] at h
            have := textL_cnt false r [] x.1 x.2 (by rw [hx])
            split at h
            · simp at h; obtain ⟨_, _, _, rfl⟩ := h; rw [cnt_cons, if_neg (by decide)]; omega
            · simp at h
        · exact restL_cnt (c :: r) h

theorem wordsGo_fuel : ∀ (f f' : Nat) (l : List UInt8) (ln : Nat) (acc : List Wd), l.length < f → l.length < f' → wordsGo f l ln acc = wordsGo f' l ln acc
  | 0, _, _, _, _, h, _ => by omega
  | f + 1, 0, _, _, _, _, h => by omega
  | f + 1, f' + 1, l, ln, acc, h, h' => by
    cases l with
    | nil => rfl
    | cons c r =>
      unfold wordsGo
      cases hx : wordL (c :: r) with
      | none => rfl
      | some x =>
        obtain ⟨k, s, n, m⟩ := x
        have h1 := wordL_lt (c :: r) hx
        have h2 := skipL_le m ln
        exact wordsGo_fuel f f' _ _ _ (by omega) (by omega)
theorem wordsGo_acc : ∀ (f : Nat) (l : List UInt8) (ln : Nat) (acc0 acc : List Wd), wordsGo f l ln (acc0 ++ acc) = match wordsGo f l ln acc with | .ok ws => .ok (acc0 ++ ws) | .error n => .error n
  | 0, l, ln, acc0, acc => rfl
  | f + 1, l, ln, acc0, acc => by
    cases l with
    | nil => rfl
    | cons c r =>
      unfold wordsGo
      cases hx : wordL (c :: r) with
      | none => rfl
      | some x => obtain ⟨k, s, n, m⟩ := x; simp only [List.append_assoc]; exact wordsGo_acc f _ _ acc0 _
theorem wordsGo_shift : ∀ (f : Nat) (l : List UInt8) (ln d : Nat) (acc : List Wd), wordsGo f l (ln + d) (acc.map (shiftW d)) = match wordsGo f l ln acc with | .ok ws => .ok (ws.map (shiftW d)) | .error n => .error (n + d)
  | 0, l, ln, d, acc => rfl
  | f + 1, l, ln, d, acc => by
    cases l with
    | nil => rfl
    | cons c r =>
      unfold wordsGo
      cases hx : wordL (c :: r) with
      | none => rfl
      | some x =>
        obtain ⟨k, s, n, m⟩ := x
        simp only [skipL_shift m ln d]
        have := wordsGo_shift f (skipL m ln).1 (skipL m ln).2 d (acc ++ [(k, s, n, ln)])
        rw [List.map_append] at this
        exact this

theorem wordsGo_join (b : List UInt8) : ∀ (f : Nat) (l : List UInt8) (ln : Nat) (acc : List Wd), l.length < f → ∀ f2, (joinSt l ln b).1.length < f2 →
    match wordsGo f l ln acc with
    | .error n => wordsGo f2 (joinSt l ln b).1 (joinSt l ln b).2 acc = .error n
    | .ok ws => wordsGo f2 (joinSt l ln b).1 (joinSt l ln b).2 acc = wordsGo (b.length + 1) (skipL b (ln + cnt l + 1)).1 (skipL b (ln + cnt l + 1)).2 ws := by
  intro f
  induction f with
  | zero => intro l ln acc h; omega
  | succ f ih =>
    intro l ln acc h f2 hf2
    cases l with
    | nil =>
      have e : joinSt [] ln b = skipL b (ln + 1) := rfl
      rw [e] at hf2 ⊢
      show wordsGo f2 _ _ acc = _
      simp only [cnt, List.filter_nil, List.length_nil, Nat.add_zero]
      exact wordsGo_fuel _ _ _ _ _ hf2 (by have := skipL_le b (ln + 1); omega)
    | cons c r =>
      have e : joinSt (c :: r) ln b = ((c :: r) ++ 10 :: b, ln) := rfl
      rw [e] at hf2 ⊢
      obtain ⟨f2, rfl⟩ : ∃ m, f2 = m + 1 := ⟨f2 - 1, by omega⟩
      have u1 : wordsGo (f + 1) (c :: r) ln acc = match wordL (c :: r) with | none => .error ln | some (k, s, n, r) => wordsGo f (skipL r ln).1 (skipL r ln).2 (acc ++ [(k, s, n, ln)]) := rfl
      have u2 : wordsGo (f2 + 1) ((c :: r) ++ 10 :: b) ln acc = match wordL ((c :: r) ++ 10 :: b) with | none => .error ln | some (k, s, n, r) => wordsGo f2 (skipL r ln).1 (skipL r ln).2 (acc ++ [(k, s, n, ln)]) := rfl
      simp only [u1, u2]
      rw [wordL_app _ _ (by simp)]
      cases hx : wordL (c :: r) with
      | none => rfl
      | some x =>
        obtain ⟨k, s, n, m⟩ := x
        simp only [Option.map_some]
        have h1 := wordL_lt (c :: r) hx
        have h2 := skipL_le m ln
        have h3 := wordL_cnt (c :: r) hx
        have h4 := skipL_cnt m ln
        rw [skipL_app]
        have hj : (joinSt (skipL m ln).1 (skipL m ln).2 b).1.length < f2 := by
          unfold joinSt
          split
          · have := skipL_le b ((skipL m ln).2 + 1)
            simp at hf2; omega
          · simp at hf2 h1 ⊢; omega
        have := ih (skipL m ln).1 (skipL m ln).2 (acc ++ [(k, s, n, ln)]) (by omega) f2 hj
        rw [show ln + cnt (c :: r) + 1 = (skipL m ln).2 + cnt (skipL m ln).1 + 1 by omega]
        exact this

/-- THE PLAIN LAW. -/
theorem words_join (a b : List UInt8) (h : a.length + b.length ≤ 65535) :
    wordsL (a ++ 10 :: b) = match wordsL a with
    | .error (n, e) => .error (n, e)
    | .ok l => match wordsL b with
      | .error (n, e) => .error (n + (cnt a + 1), e)
      | .ok m => .ok (l ++ m.map (shiftW (cnt a + 1))) := by
  unfold wordsL
  rw [if_neg (by simp; omega), if_neg (by omega), if_neg (by omega)]
  have hj := wordsGo_join b (a.length + 1) (skipL a 0).1 (skipL a 0).2 [] (by have := skipL_le a 0; omega) ((a ++ 10 :: b).length + 1) (by
    rw [← skipL_app]; have := skipL_le (a ++ 10 :: b) 0; omega)
  rw [← skipL_app] at hj
  have hc := skipL_cnt a 0
  cases ha : wordsGo (a.length + 1) (skipL a 0).1 (skipL a 0).2 [] with
  | error n => rw [ha] at hj; simp only at hj; rw [hj]
  | ok l =>
    rw [ha] at hj
    simp only at hj
    rw [hj]
    rw [show (skipL a 0).2 + cnt (skipL a 0).1 + 1 = 0 + (cnt a + 1) by omega, skipL_shift]
    have hs := wordsGo_shift (b.length + 1) (skipL b 0).1 (skipL b 0).2 (cnt a + 1) []
    have hacc := wordsGo_acc (b.length + 1) (skipL b 0).1 ((skipL b 0).2 + (cnt a + 1)) l []
    simp only [List.append_nil, List.map_nil] at hs hacc
    rw [hacc, hs]
    cases wordsGo (b.length + 1) (skipL b 0).1 (skipL b 0).2 [] <;> rfl
end Go.Proofs.YtimdkdengdhglaaGreatDoor
