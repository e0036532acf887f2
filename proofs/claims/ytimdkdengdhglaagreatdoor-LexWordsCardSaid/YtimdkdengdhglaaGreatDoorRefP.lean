/- Plain law: the reference's reading of a number is the program's. -/
import Derived.Test.YtimdkdengdhglaaGreatDoorLexR
namespace Go.Proofs.YtimdkdengdhglaaGreatDoor

def valL (l : List UInt8) : Nat := l.foldl (fun n c => 10 * n + (c.toNat - 48)) 0
def digitB (c : UInt8) : Bool := decide (48 ≤ c.toNat) && decide (c.toNat ≤ 57)
theorem digitB_iff (c : UInt8) : digitB c = true ↔ 48 ≤ c.toNat ∧ c.toNat ≤ 57 := by simp [digitB]
theorem valL_snoc (l : List UInt8) (c : UInt8) : valL (l ++ [c]) = 10 * valL l + (c.toNat - 48) := by simp [valL]
theorem valL_dec : ∀ u : Nat, valL (Lib.decDigits u) = u := by
  intro u
  induction u using Nat.strongRecOn with
  | _ u ih =>
    have key : ∀ d, d < 10 → (UInt8.ofNat (48 + d)).toNat = 48 + d := fun d hd => by simp; omega
    rw [Lib.decDigits]
    split
    · rename_i h
      show 10 * 0 + ((UInt8.ofNat (48 + u)).toNat - 48) = u
      rw [key u h]; omega
    · rename_i h
      rw [valL_snoc, ih _ (by omega), key _ (by omega)]; omega
theorem dec_valL : ∀ (n : Nat) (l : List UInt8), l.length = n → l ≠ [] → (∀ c ∈ l, digitB c = true) → (l.head? ≠ some 48 ∨ l.length = 1) → Lib.decDigits (valL l) = l := by
  intro n
  induction n with
  | zero => intro l hl h0; exact absurd (List.eq_nil_of_length_eq_zero hl) h0
  | succ n ih =>
    intro l hl h0 hd hh
    obtain ⟨r, c, rfl⟩ : ∃ r c, l = r ++ [c] := ⟨l.dropLast, l.getLast h0, (List.dropLast_concat_getLast h0).symm⟩
    have hc := (digitB_iff c).1 (hd c (by simp))
    have key : UInt8.ofNat (48 + (c.toNat - 48)) = c := by
      apply UInt8.toNat_inj.1; simp; omega
    cases r with
    | nil =>
      show Lib.decDigits (10 * 0 + (c.toNat - 48)) = [c]
      rw [Lib.decDigits_one (by omega), show 48 + (10 * 0 + (c.toNat - 48)) = 48 + (c.toNat - 48) by omega, key]
    | cons d t =>
      have hlen : (d :: t).length = n := by simp at hl ⊢; omega
      have hd48 : d ≠ 48 := by
        rcases hh with h | h
        · simpa using h
        · simp at h
      have hr := ih (d :: t) hlen (by simp) (fun x hx => hd x (by simp at hx ⊢; rcases hx with h | h <;> simp [h])) (.inl (by simpa using hd48))
      have hv : 1 ≤ valL (d :: t) := by
        rcases Nat.eq_zero_or_pos (valL (d :: t)) with h | h
        · rw [h] at hr
          have : Lib.decDigits 0 = [48] := by rw [Lib.decDigits_one (by decide)]; rfl
          rw [this] at hr
          simp at hr
          exact absurd hr.1.symm hd48
        · exact h
      rw [valL_snoc, Lib.decDigits, dif_neg (by omega), show (10 * valL (d :: t) + (c.toNat - 48)) / 10 = valL (d :: t) by omega, show (10 * valL (d :: t) + (c.toNat - 48)) % 10 = c.toNat - 48 by omega, hr, key]
theorem valL_app (a : List UInt8) : ∀ (n : Nat) (b : List UInt8), b.length = n → b ≠ [] → 10 * valL a ≤ valL (a ++ b) := by
  intro n
  induction n with
  | zero => intro b hb h0; exact absurd (List.eq_nil_of_length_eq_zero hb) h0
  | succ n ih =>
    intro b hb h0
    obtain ⟨r, c, rfl⟩ : ∃ r c, b = r ++ [c] := ⟨b.dropLast, b.getLast h0, (List.dropLast_concat_getLast h0).symm⟩
    rw [← List.append_assoc, valL_snoc]
    by_cases hr : r = []
    · subst hr; simp
    · have := ih r (by simp at hb; omega) hr
      omega
theorem valL_take (l : List UInt8) (j : Nat) (h : j < l.length) : 10 * valL (l.take j) ≤ valL l := by
  have := valL_app (l.take j) _ (l.drop j) rfl (by intro e; have := congrArg List.length e; simp at this; omega)
  rwa [List.take_append_drop] at this
theorem nDigits_pow : ∀ u : Nat, 1 ≤ u → 10 ^ (Lib.nDigits u - 1) ≤ u := by
  intro u
  induction u using Nat.strongRecOn with
  | _ u ih =>
    intro h1
    by_cases h : u < 10
    · rw [Lib.nDigits_small h]; simpa using h1
    · rw [Lib.nDigits_big h]
      have := ih (u / 10) (by omega) (by omega)
      have hp := Lib.nDigits_pos (u / 10)
      rw [show Lib.nDigits (u / 10) + 1 - 1 = (Lib.nDigits (u / 10) - 1) + 1 by omega, Nat.pow_succ]
      omega
theorem dec_len19 (u : Nat) (h : u ≤ 9223372036854775808) : (Lib.decDigits u).length ≤ 19 := by
  rw [Lib.decDigits_length]
  rcases Nat.eq_zero_or_pos u with rfl | h1
  · rw [Lib.nDigits_small (by decide)]; decide
  · have := nDigits_pow u h1
    rcases Nat.lt_or_ge 19 (Lib.nDigits u) with h2 | h2
    · have h3 : 10 ^ 19 ≤ 10 ^ (Lib.nDigits u - 1) := Nat.pow_le_pow_right (by decide) (by omega)
      have : (10 : Nat) ^ 19 = 10000000000000000000 := by decide
      omega
    · exact h2

theorem numL_iff (s : List UInt8) (v : Int) : numL s = some v ↔ s = Lib.itoa v ∧ -9223372036854775808 ≤ v ∧ v ≤ 9223372036854775807 := by
  constructor
  · intro h
    unfold numL at h
    split at h
    · rename_i u hu
      split at h
      · rename_i he
        simp at h; subst h
        exact ⟨he.symm, parseIntB_range _ _ hu⟩
      · simp at h
    · simp at h
  · rintro ⟨rfl, h0, h1⟩
    exact numL_itoa v h0 h1
theorem numL_neg (ds : List UInt8) (v : Int) : numL (45 :: ds) = some v ↔ ∃ u : Nat, 1 ≤ u ∧ u ≤ 9223372036854775808 ∧ ds = Lib.decDigits u ∧ v = -(u : Int) := by
  rw [numL_iff]
  constructor
  · rintro ⟨h, h0, h1⟩
    unfold Lib.itoa at h
    split at h
    · rename_i hn
      exact ⟨v.natAbs, by omega, by omega, by simpa using h, by omega⟩
    · obtain ⟨c, r, hc, h2, h3⟩ := decDigits_cons v.toNat
      rw [hc] at h
      simp at h
      rw [← h.1] at h2; simp at h2
  · rintro ⟨u, h1, h2, rfl, rfl⟩
    refine ⟨?_, by omega, by omega⟩
    unfold Lib.itoa
    rw [if_pos (by omega), show (-(u : Int)).natAbs = u by omega]
theorem numL_pos (s : List UInt8) (v : Int) (hs : s.head? ≠ some 45) : numL s = some v ↔ ∃ u : Nat, u ≤ 9223372036854775807 ∧ s = Lib.decDigits u ∧ v = (u : Int) := by
  rw [numL_iff]
  constructor
  · rintro ⟨rfl, h0, h1⟩
    unfold Lib.itoa at hs ⊢
    split
    · rename_i hn; rw [if_pos hn] at hs; simp at hs
    · exact ⟨v.toNat, by omega, rfl, by omega⟩
  · rintro ⟨u, h1, rfl, rfl⟩
    refine ⟨?_, by omega, by omega⟩
    unfold Lib.itoa
    rw [if_neg (by omega)]; rfl

/-- What the reference's loop asks of the digits. -/
theorem none_neg (ds : List UInt8) (h : ∀ u : Nat, 1 ≤ u → u ≤ 9223372036854775808 → ds ≠ Lib.decDigits u) : numL (45 :: ds) = none := by
  cases hn : numL (45 :: ds) with
  | none => rfl
  | some v => obtain ⟨u, h1, h2, h3, _⟩ := (numL_neg ds v).1 hn; exact absurd h3 (h u h1 h2)
theorem none_pos (s : List UInt8) (hs : s.head? ≠ some 45) (h : ∀ u : Nat, u ≤ 9223372036854775807 → s ≠ Lib.decDigits u) : numL s = none := by
  cases hn : numL s with
  | none => rfl
  | some v => obtain ⟨u, h1, h2, _⟩ := (numL_pos s v hs).1 hn; exact absurd h2 (h u h1)
/-- The digits of no number: one that is none; a part that is too great; a zero ahead; too many. -/
theorem dec_not_digit (ds : List UInt8) (j : Nat) (h : j < ds.length) (hd : digitB ds[j] = false) (u : Nat) : ds ≠ Lib.decDigits u := by
  rintro rfl
  have := decDigits_mem u _ (List.getElem_mem h)
  rw [← digitB_iff, hd] at this
  exact absurd this (by decide)
theorem dec_great (ds : List UInt8) (j : Nat) (h : j < ds.length) (hv : 922337203685477580 < valL (ds.take j)) (u : Nat) (hu : u ≤ 9223372036854775808) : ds ≠ Lib.decDigits u := by
  rintro rfl
  have := valL_take _ j h
  rw [valL_dec] at this
  omega
theorem dec_zero (ds : List UInt8) (h : ds.head? = some 48) (u : Nat) (hu : ds = Lib.decDigits u) : u = 0 ∧ ds.length = 1 := by
  have hz : u = 0 := by
    induction u using Nat.strongRecOn generalizing ds with
    | _ u ih =>
      rw [Lib.decDigits] at hu
      split at hu
      · rename_i h10
        subst hu
        simp at h
        have := congrArg UInt8.toNat h
        simp at this; omega
      · rename_i h10
        exfalso
        have hh : (Lib.decDigits (u / 10)).head? = some 48 := by
          obtain ⟨c, r, hc, _⟩ := decDigits_cons (u / 10)
          rw [hu, hc] at h
          rw [hc]; simpa using h
        have := ih (u / 10) (by omega) _ hh rfl
        omega
  subst hz
  rw [Lib.decDigits_one (by decide)] at hu
  subst hu; exact ⟨rfl, rfl⟩
end Go.Proofs.YtimdkdengdhglaaGreatDoor
