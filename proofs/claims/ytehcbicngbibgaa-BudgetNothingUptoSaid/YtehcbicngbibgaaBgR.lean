/- sort.Search over a row; rises. -/
import Derived.Test.YtehcbicngbibgaaBgB
import Derived.Deep.RegionHeld3
import Derived.Laws.AppendOwnNone
import Derived.Laws.OwnMore
namespace Go.Proofs.Ytehcbicngbibgaa
open Go Go.RowKit Go.Maps

/-- A row of numbers at w. -/
def ReadsI (w : World) (g : Nat) (L : List Int) : Prop := ∀ j, j < L.length → w.cell? ⟨g, j, none⟩ = some (.int .i64 (L.getD j 0))

set_option maxRecDepth 100000 in
theorem rises1_any (T X g n cap i : Nat) (x y : Int) (w : World) (hT : w.cell? ⟨T, 0, none⟩ = some (.slice (some ⟨g, 0, none⟩) n cap)) (hX : w.cell? ⟨X, 0, none⟩ = some (.int .i64 x))
    (hc : w.cell? ⟨g, i, none⟩ = some (.int .i64 y)) (hi : i < n) :
    Calls Try.prog 18 #[.int .i64 (i : Nat), .pointer (some ⟨T, 0, none⟩), .pointer (some ⟨X, 0, none⟩)] w fun e w' => e = .returned (.bool (decide (x ≤ y))) ∧ Below w.heap.size w w' := by
  go_enter Try.func18, Try.ntmps18
  go_wp2_with fail
  go_quiet (fail)
  go_wp2_with fail
  go_ret
  exact ⟨rfl, below_drewN (Below.refl _ _) _⟩

theorem rises1_at (T X g n cap i : Nat) (x y z : Int) (w : World) (hz : z = (i : Nat)) (hT : w.cell? ⟨T, 0, none⟩ = some (.slice (some ⟨g, 0, none⟩) n cap)) (hX : w.cell? ⟨X, 0, none⟩ = some (.int .i64 x))
    (hc : w.cell? ⟨g, i, none⟩ = some (.int .i64 y)) (hi : i < n) (b : Bool) (hb : decide (x ≤ y) = b) :
    Calls Try.prog 18 #[.int .i64 z, .pointer (some ⟨T, 0, none⟩), .pointer (some ⟨X, 0, none⟩)] w fun e w' => e = .returned (.bool b) ∧ Below w.heap.size w w' := by
  subst hz
  subst hb
  exact rises1_any T X g n cap i x y w hT hX hc hi

set_option maxHeartbeats 1000000 in
set_option maxRecDepth 100000 in
theorem search_any (T X g cap : Nat) (L : List Int) (x : Int) (w : World) (hT : w.cell? ⟨T, 0, none⟩ = some (.slice (some ⟨g, 0, none⟩) L.length cap)) (hX : w.cell? ⟨X, 0, none⟩ = some (.int .i64 x))
    (hc : ReadsI w g L) (hTl : T < w.heap.size) (hXl : X < w.heap.size) (hgl : g < w.heap.size) (hL : L.length ≤ 1048576) :
    Calls Try.prog 17 #[.int .i64 (L.length : Nat), .func (.func 18) #[] #[.pointer (some ⟨T, 0, none⟩), .pointer (some ⟨X, 0, none⟩)]] w fun e w' =>
      (∃ k : Nat, e = .returned (.int .i64 (k : Nat)) ∧ k ≤ L.length ∧ (k = 0 ∨ L.getD (k - 1) 0 < x) ∧ (k = L.length ∨ x ≤ L.getD k 0)) ∧ Below w.heap.size w w' := by
  replace hc := Lib.hid hc
  go_enter Try.func17, Try.ntmps17
  go_wp2_with fail
  go_loopw [5, 6] (fun i j wr => ∃ lo hi : Nat, i = .int .i64 (lo : Nat) ∧ j = .int .i64 (hi : Nat) ∧ lo ≤ hi ∧ hi ≤ L.length ∧ (lo = 0 ∨ L.getD (lo - 1) 0 < x) ∧ (hi = L.length ∨ x ≤ L.getD hi 0) ∧ Below w.heap.size w wr) (fun i j _ => (intOf j - intOf i).toNat)
  case atStart => exact ⟨0, L.length, rfl, rfl, by omega, by omega, .inl rfl, .inl rfl, Below.refl _ _⟩
  case round =>
    obtain ⟨lo, hi, rfl, rfl, h1, h2, h3, h4, hb⟩ := hrel
    have dT := (hb.cell (p := ⟨T, 0, none⟩) hTl).trans hT
    have dX := (hb.cell (p := ⟨X, 0, none⟩) hXl).trans hX
    replace h3 := Lib.hid h3
    replace h4 := Lib.hid h4
    by_cases hlt : lo < hi
    · have hm : ((lo : Int) + (hi : Int)) / 2 = (((lo + hi) / 2 : Nat) : Int) := by omega
      obtain ⟨m, hmm⟩ : ∃ m, m = (lo + hi) / 2 := ⟨_, rfl⟩
      rw [← hmm] at hm
      have hml : lo ≤ m ∧ m < hi := by omega
      have hcm : wr.cell? ⟨g, m, none⟩ = some (.int .i64 (L.getD m 0)) := (hb.cell (p := ⟨g, m, none⟩) hgl).trans (hc.out m (by omega))
      replace hm := Lib.hid hm
      replace hb := Lib.hid hb
      by_cases hp : x ≤ L.getD m 0
      · have cC := rises1_at T X g L.length cap m x (L.getD m 0) _ wr hm.out dT dX hcm (by omega) true (by simpa using hp)
        go_wp2_with (go_at_call 18; refine cC.mono ?_)
        first | rintro e W2 rfl hb2 | rintro e W2 ⟨rfl, hb2⟩
        have hb3 := Lib.hid (hb.out.trans (hb2.mono hb.out.size))
        clear cC hb2
        go_wp2_with fail
        go_roundw
        case rel => exact ⟨lo, m, rfl, by rw [hm.out], by omega, by omega, h3.out, .inr hp, hb3.out⟩
        case measure => simp [intOf]; omega
      · have cC := rises1_at T X g L.length cap m x (L.getD m 0) _ wr hm.out dT dX hcm (by omega) false (by simpa using hp)
        go_wp2_with (go_at_call 18; refine cC.mono ?_)
        first | rintro e W2 rfl hb2 | rintro e W2 ⟨rfl, hb2⟩
        have hb3 := Lib.hid (hb.out.trans (hb2.mono hb.out.size))
        clear cC hb2
        go_wp2_with fail
        go_roundw
        case rel => exact ⟨m + 1, hi, by rw [hm.out]; rfl, rfl, by omega, by omega, .inr (by simpa using hp), h4.out, hb3.out⟩
        case measure => simp [intOf]; omega
    · obtain rfl : lo = hi := by omega
      go_wp2_with fail
      go_ret
      exact ⟨⟨lo, rfl, h2, h3.out, h4.out⟩, hb⟩

set_option maxRecDepth 100000 in
theorem search_nil (F : Value) (w : World) : Calls Try.prog 17 #[.int .i64 0, F] w fun e w' => e = .returned (.int .i64 0) ∧ w' = w := by
  go_enter Try.func17, Try.ntmps17
  go_wp2_with fail
  go_loopw [5, 6] (fun i j wr => i = .int .i64 0 ∧ j = .int .i64 0 ∧ wr = w) (fun _ _ _ => 0)
  case atStart => exact ⟨rfl, rfl, rfl⟩
  case round =>
    obtain ⟨rfl, rfl, rfl⟩ := hrel
    go_wp2_with fail
    go_ret
    exact ⟨rfl, rfl⟩

def Sorted (L : List Int) : Prop := L.Pairwise (· < ·)
def pidx (L : List Int) (x : Int) : Nat := L.findIdx fun y => decide (x ≤ y)
def pstep (L : List Int) (x : Int) : List Int := L.take (pidx L x) ++ x :: L.drop (pidx L x + 1)
def patL (xs : List Int) : List Int := xs.foldl pstep []
theorem patL_snoc (xs : List Int) (x : Int) : patL (xs ++ [x]) = pstep (patL xs) x := by simp [patL, List.foldl_append]
theorem getD_at (L : List Int) (k : Nat) (h : k < L.length) : L.getD k 0 = L[k] := by simp [List.getD, h]
theorem pidx_eq {L : List Int} (hs : Sorted L) {x : Int} {k : Nat} (hk : k ≤ L.length) (h1 : k = 0 ∨ L.getD (k - 1) 0 < x) (h2 : k = L.length ∨ x ≤ L.getD k 0) : pidx L x = k := by
  have key : ∀ j (hj : j < L.length), j < k → L[j] < x := by
    intro j hj hjk
    rcases h1 with rfl | h1
    · omega
    · rw [getD_at L (k - 1) (by omega)] at h1
      by_cases he : j = k - 1
      · subst he; exact h1
      · exact Int.lt_trans (List.pairwise_iff_getElem.1 hs j (k - 1) hj (by omega) (by omega)) h1
  unfold pidx
  rcases Nat.lt_or_ge k L.length with hlt | hge
  · rw [List.findIdx_eq hlt]
    rcases h2 with h2 | h2
    · omega
    · rw [getD_at L k hlt] at h2
      exact ⟨by simpa using h2, fun j hj => by have := key j (by omega) hj; simp; omega⟩
  · obtain rfl : k = L.length := by omega
    rw [List.findIdx_eq_length]
    intro y hy
    obtain ⟨j, hj, rfl⟩ := List.getElem_of_mem hy
    have := key j hj hj
    simp; omega
theorem pidx_le (L : List Int) (x : Int) : pidx L x ≤ L.length := List.findIdx_le_length
theorem sorted_pstep {L : List Int} (hs : Sorted L) (x : Int) : Sorted (pstep L x) := by
  have hlow : ∀ j (hj : j < L.length), j < pidx L x → L[j] < x := fun j hj hjk => by
    have := List.not_of_lt_findIdx hjk
    simp at this; omega
  have hhigh : ∀ j (hj : j < L.length), pidx L x < j → x < L[j] := fun j hj hjk => by
    have hlt : pidx L x < L.length := by omega
    have h1 := List.findIdx_getElem (p := fun y => decide (x ≤ y)) (xs := L) (w := hlt)
    simp at h1
    have h2 := List.pairwise_iff_getElem.1 hs (pidx L x) j hlt hj hjk
    unfold pidx at h2
    omega
  unfold pstep Sorted
  rw [List.pairwise_append, List.pairwise_cons]
  refine ⟨hs.take, ⟨?_, hs.drop⟩, ?_⟩
  · intro y hy
    obtain ⟨j, hj, rfl⟩ := List.getElem_of_mem hy
    rw [List.getElem_drop]
    rw [List.length_drop] at hj
    exact hhigh _ (by omega) (by omega)
  · intro a ha b hb
    obtain ⟨i, hi, rfl⟩ := List.getElem_of_mem ha
    rw [List.length_take] at hi
    rw [List.getElem_take]
    have h1 := hlow i (by omega) (by omega)
    rcases List.mem_cons.1 hb with rfl | hb
    · exact h1
    · obtain ⟨j, hj, rfl⟩ := List.getElem_of_mem hb
      rw [List.length_drop] at hj
      rw [List.getElem_drop]
      exact Int.lt_trans h1 (hhigh _ (by omega) (by omega))
theorem sorted_fold : ∀ (xs L : List Int), Sorted L → Sorted (xs.foldl pstep L)
  | [], _, h => h
  | x :: xs, _, h => sorted_fold xs _ (sorted_pstep h x)
theorem sorted_patL (xs : List Int) : Sorted (patL xs) := sorted_fold xs [] List.Pairwise.nil
theorem pstep_len (L : List Int) (x : Int) : (pstep L x).length ≤ L.length + 1 := by
  have := pidx_le L x
  simp [pstep]; omega
theorem fold_len : ∀ (xs L : List Int), (xs.foldl pstep L).length ≤ L.length + xs.length
  | [], _ => Nat.le_refl _
  | x :: xs, L => by
    have h1 := fold_len xs (pstep L x)
    have h2 := pstep_len L x
    rw [List.foldl_cons, List.length_cons]; omega
theorem patL_len (xs : List Int) : (patL xs).length ≤ xs.length := by
  have := fold_len xs []
  simpa [patL] using this
end Go.Proofs.Ytehcbicngbibgaa
