/- Plain functions on lists of bytes: what package lex does to a text (no program, no memory). -/
import Derived.Lib.Strings
import Derived.Lib.ItoaNum
import Derived.Lib.ParseIntB
namespace Go.Proofs.YtimdkdengdhglaaGreatDoor

/-- A string of the bytes l. -/
def bs (l : List UInt8) : ByteArray := ⟨l.toArray⟩
theorem bs_data (l : List UInt8) : (bs l).data.toList = l := rfl
theorem bs_toList (s : ByteArray) : bs s.data.toList = s := by cases s; simp [bs]
theorem bs_size (l : List UInt8) : (bs l).size = l.length := by simp [bs, ByteArray.size]
theorem bs_inj {a b : List UInt8} (h : bs a = bs b) : a = b := by have := congrArg (fun s : ByteArray => s.data.toList) h; exact this
theorem ba_ext {s t : ByteArray} (h : s.data.toList = t.data.toList) : s = t := by rw [← bs_toList s, ← bs_toList t, h]
theorem size_list (s : ByteArray) : s.size = s.data.toList.length := by rw [Array.length_toList]; rfl
theorem bs_take (l : List UInt8) (k : Nat) : (bs l).extract 0 k = bs (l.take k) := by
  apply ba_ext; simp [bs]
theorem bs_drop (l : List UInt8) (k : Nat) : (bs l).extract k (bs l).size = bs (l.drop k) := by
  apply ba_ext
  have h : (bs l).size = l.length := bs_size l
  rw [h]
  simp [bs, List.take_of_length_le]
theorem bs_get (l : List UInt8) (k : Nat) (h : k < (bs l).size) : (bs l)[k] = l[k]'(by rw [← bs_size]; exact h) := by
  simp [bs, ByteArray.getElem_eq_getElem_data]

theorem tw_lt (p : UInt8 → Bool) : ∀ (l : List UInt8) (k : Nat), k < (l.takeWhile p).length → ∀ (h : k < l.length), p l[k] = true
  | [], _, hk, _ => by simp at hk
  | c :: r, k, hk, h => by
    by_cases hc : p c = true
    · cases k with
      | zero => simpa using hc
      | succ k =>
        simp only [List.takeWhile_cons, hc, if_true, List.length_cons] at hk
        simpa using tw_lt p r k (by omega) (by simpa using h)
    · simp [List.takeWhile_cons, hc] at hk
theorem tw_at (p : UInt8 → Bool) : ∀ (l : List UInt8) (h : (l.takeWhile p).length < l.length), p l[(l.takeWhile p).length] = false
  | [], h => by simp at h
  | c :: r, h => by
    by_cases hc : p c = true
    · simp only [List.takeWhile_cons, hc, if_true, List.length_cons, List.getElem_cons_succ] at h ⊢
      exact tw_at p r (by omega)
    · simp [List.takeWhile_cons, hc]
theorem tw_le (p : UInt8 → Bool) (l : List UInt8) : (l.takeWhile p).length ≤ l.length := (List.takeWhile_sublist p).length_le
theorem take_tw (p : UInt8 → Bool) (l : List UInt8) : l.take (l.takeWhile p).length = l.takeWhile p := by
  induction l with
  | nil => rfl
  | cons c r ih => by_cases hc : p c = true <;> simp [List.takeWhile_cons, hc, ih]
theorem drop_tw (p : UInt8 → Bool) (l : List UInt8) : l.drop (l.takeWhile p).length = l.dropWhile p := by
  induction l with
  | nil => rfl
  | cons c r ih => by_cases hc : p c = true <;> simp [List.takeWhile_cons, List.dropWhile_cons, hc, ih]
theorem tw_all (p : UInt8 → Bool) : ∀ (l : List UInt8) (x : UInt8), x ∈ l.takeWhile p → p x = true
  | [], x, h => by simp at h
  | c :: r, x, h => by
    by_cases hc : p c = true
    · simp only [List.takeWhile_cons, hc, if_true, List.mem_cons] at h
      rcases h with rfl | h
      · exact hc
      · exact tw_all p r x h
    · simp [List.takeWhile_cons, hc] at h
theorem tw_mem (p : UInt8 → Bool) (l : List UInt8) (j : Nat) (h : j < (l.takeWhile p).length) : p (l.takeWhile p)[j] = true := tw_all p l _ (List.getElem_mem h)
theorem tw_dw (p : UInt8 → Bool) (l : List UInt8) : (l.takeWhile p).length + (l.dropWhile p).length = l.length := by
  rw [← List.length_append, List.takeWhile_append_dropWhile]
theorem dw_dw (p : UInt8 → Bool) (l : List UInt8) : (l.dropWhile p).dropWhile p = l.dropWhile p := by
  induction l with
  | nil => rfl
  | cons c r ih => by_cases hc : p c = true <;> simp [List.dropWhile_cons, hc, ih]
theorem dw_le (p : UInt8 → Bool) (l : List UInt8) : (l.dropWhile p).length ≤ l.length := (List.dropWhile_sublist p).length_le

/-- The kind of a byte: 0 other, 1 idle, 2 a digit, 3 another part of a name. -/
def kindOf (c : UInt8) : Nat :=
  if c.toNat = 32 ∨ c.toNat = 9 ∨ c.toNat = 10 then 1
  else if 48 ≤ c.toNat ∧ c.toNat ≤ 57 then 2
  else if (97 ≤ c.toNat ∧ c.toNat ≤ 122) ∨ (65 ≤ c.toNat ∧ c.toNat ≤ 90) ∨ c.toNat = 45 ∨ c.toNat = 95 ∨ c.toNat = 58 ∨ c.toNat = 46 ∨ c.toNat = 35 ∨ c.toNat = 33 ∨ c.toNat = 63 then 3
  else 0
def idle (c : UInt8) : Bool := kindOf c == 1
def part (c : UInt8) : Bool := decide (2 ≤ kindOf c)
def plainByte (c : UInt8) : Bool := c != 34 && c != 92 && c != 10

/-- skip: what is idle, and remarks. -/
def skipL : List UInt8 → Nat → List UInt8 × Nat
  | [], ln => ([], ln)
  | c :: r, ln =>
    if c = 10 then skipL r (ln + 1)
    else if c = 32 ∨ c = 9 then skipL r ln
    else if c = 59 then skipL (r.dropWhile (· != 10)) ln
    else (c :: r, ln)
  termination_by l => l.length
  decreasing_by
    all_goals simp only [List.length_cons]
    · omega
    · omega
    · have := dw_le (· != 10) r; omega

theorem skipL_idle (l : List UInt8) (ln : Nat) : skipL l ln = skipL (l.dropWhile idle) (ln + ((l.takeWhile idle).filter (· == 10)).length) := by
  induction l generalizing ln with
  | nil => simp
  | cons c r ih =>
    by_cases hc : idle c = true
    · have h3 : c = 10 ∨ c = 32 ∨ c = 9 := by
        simp only [idle, kindOf, beq_iff_eq] at hc
        have : c.toNat = 32 ∨ c.toNat = 9 ∨ c.toNat = 10 := by
          revert hc; repeat' split
          all_goals simp_all
        simp only [← UInt8.toNat_inj]
        rcases this with h | h | h <;> simp [h]
      rw [skipL]
      rcases h3 with rfl | rfl | rfl
      · rw [if_pos rfl, ih]; simp only [hc, List.takeWhile_cons, List.dropWhile_cons, List.filter_cons, if_true, beq_self_eq_true, List.length_cons]; congr 1; omega
      · rw [if_neg (by decide), if_pos (by simp), ih]; simp [hc, List.takeWhile_cons, List.dropWhile_cons, List.filter_cons]
      · rw [if_neg (by decide), if_pos (by simp), ih]; simp [hc, List.takeWhile_cons, List.dropWhile_cons, List.filter_cons]
    · simp [hc, List.takeWhile_cons, List.dropWhile_cons]
theorem skipL_rem (r : List UInt8) (ln : Nat) : skipL (59 :: r) ln = skipL (r.dropWhile (· != 10)) ln := by
  rw [skipL, if_neg (by decide), if_neg (by decide), if_pos rfl]
theorem skipL_stop (l : List UInt8) (ln : Nat) (h1 : l.dropWhile idle = l) (h2 : l.head? ≠ some 59) : skipL l ln = (l, ln) := by
  cases l with
  | nil => rw [skipL]
  | cons c r =>
    have hc : idle c = false := by
      by_cases hc : idle c = true
      · simp only [List.dropWhile_cons, hc, if_true] at h1
        have := dw_le idle r
        have := congrArg List.length h1
        simp at this; omega
      · simpa using hc
    have n10 : c ≠ 10 := by rintro rfl; simp [idle, kindOf] at hc
    have n32 : ¬ (c = 32 ∨ c = 9) := by rintro (rfl | rfl) <;> simp [idle, kindOf] at hc
    have n59 : c ≠ 59 := by rintro rfl; simp at h2
    rw [skipL, if_neg n10, if_neg n32, if_neg n59]
theorem skipL_le (l : List UInt8) (ln : Nat) : (skipL l ln).1.length ≤ l.length := by
  fun_induction skipL l ln with
  | case1 => simp
  | case2 => simp only [List.length_cons]; omega
  | case3 => simp only [List.length_cons]; omega
  | case4 r => have := dw_le (· != 10) r; simp only [List.length_cons]; omega
  | case5 => simp
theorem skipL_sum (l : List UInt8) (ln : Nat) : (skipL l ln).1.length + (skipL l ln).2 ≤ l.length + ln := by
  fun_induction skipL l ln with
  | case1 => simp
  | case2 => simp only [List.length_cons]; omega
  | case3 => simp only [List.length_cons]; omega
  | case4 r => have := dw_le (· != 10) r; simp only [List.length_cons]; omega
  | case5 => simp

/-- What a byte behind a backslash stands for. -/
def escOf (d : UInt8) : Option UInt8 := if d = 34 then some 34 else if d = 92 then some 92 else if d = 110 then some 10 else none
/-- text: behind the first quote: what it stands for, what is left behind it. (The mark: a backslash stands ahead.) -/
def textL : Bool → List UInt8 → List UInt8 → Option (List UInt8 × List UInt8)
  | _, [], _ => none
  | true, d :: r, acc => (escOf d).bind fun e => textL false r (acc ++ [e])
  | false, c :: r, acc => if c = 34 then some (acc, r) else if c = 10 then none else if c = 92 then textL true r acc else textL false r (acc ++ [c])
theorem textL_plain (l acc : List UInt8) : textL false l acc = textL false (l.dropWhile plainByte) (acc ++ l.takeWhile plainByte) := by
  induction l generalizing acc with
  | nil => simp
  | cons c r ih =>
    by_cases hc : plainByte c = true
    · have h : c ≠ 34 ∧ c ≠ 92 ∧ c ≠ 10 := by
        simpa [plainByte, bne_iff_ne, and_assoc] using hc
      rw [textL, if_neg h.1, if_neg h.2.2, if_neg h.2.1, ih]
      simp [List.takeWhile_cons, List.dropWhile_cons, hc]
    · simp [List.takeWhile_cons, List.dropWhile_cons, hc]
theorem textL_quote (r acc : List UInt8) : textL false (34 :: r) acc = some (acc, r) := by rw [textL, if_pos rfl]
theorem textL_back (r acc : List UInt8) : textL false (92 :: r) acc = textL true r acc := by
  rw [textL, if_neg (by decide), if_neg (by decide), if_pos rfl]
theorem textL_esc (d : UInt8) (r acc : List UInt8) (h : d = 34 ∨ d = 92) : textL false (92 :: d :: r) acc = textL false r (acc ++ [d]) := by
  rw [textL_back, textL]
  rcases h with rfl | rfl <;> rfl
theorem textL_nl (r acc : List UInt8) : textL false (92 :: 110 :: r) acc = textL false r (acc ++ [10]) := by
  rw [textL_back, textL]; rfl
theorem dw_head {p : UInt8 → Bool} {l : List UInt8} (h : l.dropWhile p = l) {c : UInt8} {r : List UInt8} (hl : l = c :: r) : p c = false := by
  subst hl
  by_cases hc : p c = true
  · simp only [List.dropWhile_cons, hc, if_true] at h
    have := congrArg List.length h
    have := dw_le p r
    simp at *; omega
  · simpa using hc
/-- What stands where a text goes on: four ways. -/
theorem textL_ways (l acc : List UInt8) (h : l.dropWhile plainByte = l) :
    (∃ r, l = 34 :: r) ∨ (∃ d r, l = 92 :: d :: r ∧ (d = 34 ∨ d = 92)) ∨ (∃ r, l = 92 :: 110 :: r) ∨
      (textL false l acc = none ∧ [34].isPrefixOf l = false ∧ [92, 92].isPrefixOf l = false ∧ [92, 34].isPrefixOf l = false ∧ [92, 110].isPrefixOf l = false) := by
  cases l with
  | nil => exact .inr (.inr (.inr ⟨by rw [textL], rfl, rfl, rfl, rfl⟩))
  | cons c r =>
    have hc : c = 34 ∨ c = 92 ∨ c = 10 := by
      have := dw_head h rfl
      simp only [plainByte, Bool.and_eq_false_iff, bne_eq_false_iff_eq] at this
      rcases this with (h | h) | h
      · exact .inl h
      · exact .inr (.inl h)
      · exact .inr (.inr h)
    rcases hc with rfl | rfl | rfl
    · exact .inl ⟨r, rfl⟩
    · cases r with
      | nil => exact .inr (.inr (.inr ⟨by rw [textL_back, textL], rfl, rfl, rfl, rfl⟩))
      | cons d r =>
        by_cases h1 : d = 34 ∨ d = 92
        · exact .inr (.inl ⟨d, r, rfl, h1⟩)
        · by_cases h2 : d = 110
          · subst h2; exact .inr (.inr (.inl ⟨r, rfl⟩))
          · have h34 : d ≠ 34 := fun e => h1 (.inl e)
            have h92 : d ≠ 92 := fun e => h1 (.inr e)
            refine .inr (.inr (.inr ⟨?_, ?_, ?_, ?_, ?_⟩))
            · rw [textL_back, textL]; simp [escOf, h34, h92, h2]
            · rfl
            · simp [List.isPrefixOf]; exact fun e => h92 e.symm
            · simp [List.isPrefixOf]; exact fun e => h34 e.symm
            · simp [List.isPrefixOf]; exact fun e => h2 e.symm
    · exact .inr (.inr (.inr ⟨by rw [textL, if_neg (by decide), if_pos rfl], by simp [List.isPrefixOf], by simp [List.isPrefixOf], by simp [List.isPrefixOf], by simp [List.isPrefixOf]⟩))
theorem textL_le : ∀ (f : Bool) (l acc t r : List UInt8), textL f l acc = some (t, r) → r.length < l.length ∧ t.length ≤ acc.length + l.length
  | _, [], acc, t, r, h => by simp [textL] at h
  | true, d :: m, acc, t, r, h => by
    rw [textL] at h
    cases he : escOf d with
    | none => simp [he] at h
    | some e =>
      simp only [he, Option.bind_some] at h
      have := textL_le false m _ t r h
      simp at this ⊢; omega
  | false, c :: m, acc, t, r, h => by
    rw [textL] at h
    split at h
    · simp at h; obtain ⟨rfl, rfl⟩ := h; simp
    · split at h
      · simp at h
      · split at h
        · have := textL_le true m _ t r h; simp at this ⊢; omega
        · have := textL_le false m _ t r h; simp at this ⊢; omega

/-- Does it begin as a number does? -/
def isNum (s : List UInt8) : Bool := match Lib.trimPrefix s [45] with | [] => false | c :: _ => kindOf c == 2
/-- The number of a text that is one's as a whole. -/
def numL (s : List UInt8) : Option Int := match Lib.parseIntB 64 s with | .ok v => if Lib.itoa v = s then some v else none | _ => none
/-- A number or a name: kind, text, number, what is left. -/
def restL (l : List UInt8) : Option (Nat × List UInt8 × Int × List UInt8) :=
  if isNum (l.takeWhile part) then (numL (l.takeWhile part)).map fun n => (2, [], n, l.dropWhile part)
  else if l.takeWhile part ≠ [] ∧ (l.takeWhile part).length ≤ 4096 then some (1, l.takeWhile part, 0, l.dropWhile part) else none
/-- word: the next one. -/
def wordL : List UInt8 → Option (Nat × List UInt8 × Int × List UInt8)
  | [] => none
  | c :: r =>
    if c = 40 then some (4, [], 0, r)
    else if c = 41 then some (5, [], 0, r)
    else if c = 34 then (textL false r []).bind fun x => if x.1.length ≤ 4096 then some (3, x.1, 0, x.2) else none
    else restL (c :: r)
theorem restL_lt (c : UInt8) (r : List UInt8) {k : Nat} {s : List UInt8} {n : Int} {m : List UInt8} (h : restL (c :: r) = some (k, s, n, m)) : m.length < (c :: r).length := by
  have hd := tw_dw part (c :: r)
  have key : (c :: r).takeWhile part ≠ [] → ((c :: r).dropWhile part).length < (c :: r).length := fun hne => by
    have : 0 < ((c :: r).takeWhile part).length := List.length_pos_iff.2 hne
    omega
  unfold restL at h
  split at h
  · rename_i hn
    have hne : (c :: r).takeWhile part ≠ [] := by
      intro e; rw [e] at hn; simp [isNum, Lib.trimPrefix, Lib.hasPrefix, List.isPrefixOf] at hn
    cases hv : numL ((c :: r).takeWhile part) with
    | none => simp [hv] at h
    | some v => simp [hv] at h; obtain ⟨_, _, _, rfl⟩ := h; exact key hne
  · split at h
    · rename_i h2; simp at h; obtain ⟨_, _, _, rfl⟩ := h; exact key h2.1
    · simp at h
theorem wordL_lt (l : List UInt8) {k : Nat} {s : List UInt8} {n : Int} {m : List UInt8} (h : wordL l = some (k, s, n, m)) : m.length < l.length := by
  cases l with
  | nil => simp [wordL] at h
  | cons c r =>
    rw [wordL] at h
    split at h
    · simp at h; obtain ⟨_, _, _, rfl⟩ := h; simp
    · split at h
      · simp at h; obtain ⟨_, _, _, rfl⟩ := h; simp
      · split at h
        · cases hx : textL false r [] with
          | none => simp [hx] at h
          | some x =>
            simp only [hx, Option.bind_some] at h
            have := textL_le false r [] x.1 x.2 (by rw [hx])
            split at h
            · simp at h; obtain ⟨_, _, _, rfl⟩ := h; simp; omega
            · simp at h
        · exact restL_lt c r h
/-- Words: of what is left behind what is idle. (The number bounds the rounds.) -/
def wordsGo : Nat → List UInt8 → Nat → List (Nat × List UInt8 × Int × Nat) → Except Nat (List (Nat × List UInt8 × Int × Nat))
  | 0, _, _, acc => .ok acc
  | f + 1, l, ln, acc =>
    match l with
    | [] => .ok acc
    | _ :: _ => match wordL l with
      | none => .error ln
      | some (k, s, n, r) => wordsGo f (skipL r ln).1 (skipL r ln).2 (acc ++ [(k, s, n, ln)])
end Go.Proofs.YtimdkdengdhglaaGreatDoor
