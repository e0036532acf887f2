/- The walk of lives. -/
import Derived.Test.YtehcbicngbibgaaBgW
namespace Go.Proofs.Ytehcbicngbibgaa
open Go Go.RowKit Go.Maps

theorem doc_good (a : Nat) : (∀ s ∈ docA a, s.good) ∧ (∀ s ∈ docB a, s.good) ∧ (∀ s ∈ docA a, (Lit.int .i64 s.row).wf = true) ∧ (∀ s ∈ docB a, (Lit.int .i64 s.row).wf = true) ∧ (∀ s ∈ docA a, s.an = 0) ∧ (∀ s ∈ docB a, s.an = 0) := by
  refine ⟨?_, ?_, ?_, ?_, ?_, ?_⟩ <;> intro s hs <;> simp [docA, docB] at hs <;> rcases hs with rfl | rfl | rfl | rfl <;> rfl
theorem same_ab (a b : Nat) : ∀ s ∈ docB b, ∀ o, seek (docA a) s.id = some o → o.tag = s.tag ∧ o.text = s.text := by
  intro s hs o ho
  simp [docB] at hs
  rcases hs with rfl | rfl | rfl | rfl
  · rw [show seek (docA a) (hostS b).id = some (hostS a) from rfl] at ho; injection ho with ho; subst ho; exact ⟨rfl, rfl⟩
  · rw [show seek (docA a) (leafS 4 ⟨#[122]⟩ 0).id = some (leafS 4 ⟨#[122]⟩ 2) from rfl] at ho; injection ho with ho; subst ho; exact ⟨rfl, rfl⟩
  · rw [show seek (docA a) (leafS 2 ⟨#[120]⟩ 1).id = some (leafS 2 ⟨#[120]⟩ 0) from rfl] at ho; injection ho with ho; subst ho; exact ⟨rfl, rfl⟩
  · rw [show seek (docA a) (leafS 3 ⟨#[121]⟩ 2).id = some (leafS 3 ⟨#[121]⟩ 1) from rfl] at ho; injection ho with ho; subst ho; exact ⟨rfl, rfl⟩
theorem same_aa (a : Nat) : ∀ s ∈ docA a, ∀ o, seek (docA a) s.id = some o → o.tag = s.tag ∧ o.text = s.text := by
  intro s hs o ho
  simp [docA] at hs
  rcases hs with rfl | rfl | rfl | rfl
  · rw [show seek (docA a) (hostS a).id = some (hostS a) from rfl] at ho; injection ho with ho; subst ho; exact ⟨rfl, rfl⟩
  · rw [show seek (docA a) (leafS 2 ⟨#[120]⟩ 0).id = some (leafS 2 ⟨#[120]⟩ 0) from rfl] at ho; injection ho with ho; subst ho; exact ⟨rfl, rfl⟩
  · rw [show seek (docA a) (leafS 3 ⟨#[121]⟩ 1).id = some (leafS 3 ⟨#[121]⟩ 1) from rfl] at ho; injection ho with ho; subst ho; exact ⟨rfl, rfl⟩
  · rw [show seek (docA a) (leafS 4 ⟨#[122]⟩ 2).id = some (leafS 4 ⟨#[122]⟩ 2) from rfl] at ho; injection ho with ho; subst ho; exact ⟨rfl, rfl⟩
theorem nodup_a (a : Nat) : ((docA a).map (·.id)).Nodup := by show ([1, 2, 3, 4] : List Int).Nodup; decide
theorem nodup_b (a : Nat) : ((docB a).map (·.id)).Nodup := by show ([1, 4, 2, 3] : List Int).Nodup; decide

theorem least_nil_a (b : Nat) (v : Value) (w : World) (h : Flat w w.heap.size v 0 (docA b)) :
    Calls Try.prog 6 #[.slice none 0 0, v] w fun e w' => e = .returned (.agg #[.int .i64 4, .int .i64 0, .int .i64 0, .int .i64 4, .int .i64 0]) ∧ Below w.heap.size w w' := by
  obtain ⟨g1, _, g3, _, g5, _⟩ := doc_good b
  refine (least_any _ v [] (docA b) w (Flat.none w _ 0) h (by simp) (nodup_a b) (by simp) (by simp [docA]) (by simp) g1 (by simp) g3 (by simp) g5 (fun s _ o ho => by simp [seek] at ho)).mono fun e w' ⟨vis, hn, hm, he, hb⟩ => ⟨?_, hb⟩
  have hv : vis = [] := by
    cases vis with
    | nil => rfl
    | cons r l => exact absurd ((hm r).1 (by simp)) (by simp [rowsOf, rowItem, seek])
  subst hv
  rw [he]
  rfl
theorem least_a_b (a b : Nat) (v1 v2 : Value) (w : World) (h1 : Flat w w.heap.size v1 0 (docA a)) (h2 : Flat w w.heap.size v2 0 (docB b)) :
    Calls Try.prog 6 #[v1, v2] w fun e w' => e = .returned (.agg #[.int .i64 0, .int .i64 0, .int .i64 0, .int .i64 1, .int .i64 0]) ∧ Below w.heap.size w w' := by
  obtain ⟨g1, _, g3, _, g5, _⟩ := doc_good a
  obtain ⟨_, g2, _, g4, _, g6⟩ := doc_good b
  refine (least_any v1 v2 (docA a) (docB b) w h1 h2 (nodup_a a) (nodup_b b) (by simp [docA]) (by simp [docB]) g1 g2 g3 g4 g5 g6 (same_ab a b)).mono fun e w' ⟨vis, hn, hm, he, hb⟩ => ⟨?_, hb⟩
  have hs := two_rows hn (fun r => by
    rw [hm r, rows_ab]
    by_cases h0 : r = 0
    · simp [h0]
    · by_cases h1 : r = 1 <;> simp [h0, h1]) (fun r => delta (rowsOf (docA a) (docB b) r))
  rw [he, hs, rows_ab, rows_ab]
  rfl
theorem least_a_a (a : Nat) (v1 v2 : Value) (w : World) (h1 : Flat w w.heap.size v1 0 (docA a)) (h2 : Flat w w.heap.size v2 0 (docA a)) :
    Calls Try.prog 6 #[v1, v2] w fun e w' => e = .returned (.agg #[.int .i64 0, .int .i64 0, .int .i64 0, .int .i64 0, .int .i64 0]) ∧ Below w.heap.size w w' := by
  obtain ⟨g1, _, g3, _, g5, _⟩ := doc_good a
  refine (least_any v1 v2 (docA a) (docA a) w h1 h2 (nodup_a a) (nodup_a a) (by simp [docA]) (by simp [docA]) g1 g1 g3 g3 g5 g5 (same_aa a)).mono fun e w' ⟨vis, hn, hm, he, hb⟩ => ⟨?_, hb⟩
  have hs := two_rows hn (fun r => by
    rw [hm r, rows_aa]
    by_cases h0 : r = 0
    · simp [h0]
    · by_cases h1 : r = 1 <;> simp [h0, h1]) (fun r => delta (rowsOf (docA a) (docA a) r))
  rw [he, hs, rows_aa, rows_aa]
  rfl

set_option maxHeartbeats 4000000 in
set_option maxRecDepth 100000 in
theorem lives_any (w : World) : Calls Try.prog 7 #[] w fun e w' => e = .returned (.bool true) ∧ Below w.heap.size w w' := by
  obtain ⟨w3, hw3⟩ : ∃ w3, w3 = ((w.alloc (.cells #[.int .i64 2, .string ⟨#[]⟩, .string ⟨#[120]⟩, .slice none 0 0, .slice none 0 0] 32)).alloc (.cells #[.int .i64 3, .string ⟨#[]⟩, .string ⟨#[121]⟩, .slice none 0 0, .slice none 0 0] 32)).alloc (.cells #[.int .i64 4, .string ⟨#[]⟩, .string ⟨#[122]⟩, .slice none 0 0, .slice none 0 0] 32) := ⟨_, rfl⟩
  have z3 : w3.heap.size = w.heap.size + 1 + 1 + 1 := by rw [hw3]; simp
  have b3 : Below w.heap.size w w3 := by rw [hw3]; exact (((Below.refl _ w).alloc (Nat.le_refl _) _).alloc (by simp) _).alloc (by simp; omega) _
  obtain ⟨w4, hw4⟩ : ∃ w4, w4 = w3.alloc (.cells #[.int .i64 2, .string ⟨#[]⟩, .string ⟨#[120]⟩, .slice none 0 0, .slice none 0 0, .int .i64 3, .string ⟨#[]⟩, .string ⟨#[121]⟩, .slice none 0 0, .slice none 0 0, .int .i64 4, .string ⟨#[]⟩, .string ⟨#[122]⟩, .slice none 0 0, .slice none 0 0] 32) := ⟨_, rfl⟩
  have k4 := heap_alloc_new w3 (.cells #[.int .i64 2, .string ⟨#[]⟩, .string ⟨#[120]⟩, .slice none 0 0, .slice none 0 0, .int .i64 3, .string ⟨#[]⟩, .string ⟨#[121]⟩, .slice none 0 0, .slice none 0 0, .int .i64 4, .string ⟨#[]⟩, .string ⟨#[122]⟩, .slice none 0 0, .slice none 0 0] 32)
  rw [← hw4, z3] at k4
  have z4 : w4.heap.size = w.heap.size + 1 + 1 + 1 + 1 := by rw [hw4]; simp [z3]
  have b4 : Below w3.heap.size w3 w4 := by rw [hw4]; exact (Below.refl _ _).alloc (Nat.le_refl _) _
  obtain ⟨w5, hw5⟩ : ∃ w5, w5 = w4.alloc (.cells #[.int .i64 1, .string ⟨#[97]⟩, .string ⟨#[]⟩, .slice none 0 0, .slice (some ⟨w.heap.size + 1 + 1 + 1, 0, none⟩) 3 3] 32) := ⟨_, rfl⟩
  have k5 := heap_alloc_new w4 (.cells #[.int .i64 1, .string ⟨#[97]⟩, .string ⟨#[]⟩, .slice none 0 0, .slice (some ⟨w.heap.size + 1 + 1 + 1, 0, none⟩) 3 3] 32)
  rw [← hw5, z4] at k5
  have z5 : w5.heap.size = w.heap.size + 1 + 1 + 1 + 1 + 1 := by rw [hw5]; simp [z4]
  have b5 : Below w4.heap.size w4 w5 := by rw [hw5]; exact (Below.refl _ _).alloc (Nat.le_refl _) _
  obtain ⟨w6, hw6⟩ : ∃ w6, w6 = w5.alloc (.cells #[.int .i64 4, .string ⟨#[]⟩, .string ⟨#[122]⟩, .slice none 0 0, .slice none 0 0, .int .i64 2, .string ⟨#[]⟩, .string ⟨#[120]⟩, .slice none 0 0, .slice none 0 0, .int .i64 3, .string ⟨#[]⟩, .string ⟨#[121]⟩, .slice none 0 0, .slice none 0 0] 32) := ⟨_, rfl⟩
  have k6 := heap_alloc_new w5 (.cells #[.int .i64 4, .string ⟨#[]⟩, .string ⟨#[122]⟩, .slice none 0 0, .slice none 0 0, .int .i64 2, .string ⟨#[]⟩, .string ⟨#[120]⟩, .slice none 0 0, .slice none 0 0, .int .i64 3, .string ⟨#[]⟩, .string ⟨#[121]⟩, .slice none 0 0, .slice none 0 0] 32)
  rw [← hw6, z5] at k6
  have z6 : w6.heap.size = w.heap.size + 1 + 1 + 1 + 1 + 1 + 1 := by rw [hw6]; simp [z5]
  have b6 : Below w5.heap.size w5 w6 := by rw [hw6]; exact (Below.refl _ _).alloc (Nat.le_refl _) _
  obtain ⟨w7, hw7⟩ : ∃ w7, w7 = w6.alloc (.cells #[.int .i64 1, .string ⟨#[97]⟩, .string ⟨#[]⟩, .slice none 0 0, .slice (some ⟨w.heap.size + 1 + 1 + 1 + 1 + 1, 0, none⟩) 3 3] 32) := ⟨_, rfl⟩
  have k7 := heap_alloc_new w6 (.cells #[.int .i64 1, .string ⟨#[97]⟩, .string ⟨#[]⟩, .slice none 0 0, .slice (some ⟨w.heap.size + 1 + 1 + 1 + 1 + 1, 0, none⟩) 3 3] 32)
  rw [← hw7, z6] at k7
  have z7 : w7.heap.size = w.heap.size + 1 + 1 + 1 + 1 + 1 + 1 + 1 := by rw [hw7]; simp [z6]
  have b7 : Below w6.heap.size w6 w7 := by rw [hw7]; exact (Below.refl _ _).alloc (Nat.le_refl _) _
  have hFA : Hid (Flat w7 w7.heap.size (.slice (some ⟨w.heap.size + 1 + 1 + 1 + 1, 0, none⟩) 1 1) 0 (docA (w.heap.size + 1 + 1 + 1))) :=
    flat_doc w7 _ _ _ 2 3 4 _ _ _ (by omega) (by omega) rfl rfl rfl ((b7.block _ (by omega)).trans ((b6.block _ (by omega)).trans ((b5.block _ (by omega)).trans k4))) ((b7.block _ (by omega)).trans ((b6.block _ (by omega)).trans k5))
  have hFB : Hid (Flat w7 w7.heap.size (.slice (some ⟨w.heap.size + 1 + 1 + 1 + 1 + 1 + 1, 0, none⟩) 1 1) 0 (docB (w.heap.size + 1 + 1 + 1 + 1 + 1))) :=
    flat_doc w7 _ _ _ 4 2 3 _ _ _ (by omega) (by omega) rfl rfl rfl ((b7.block _ (by omega)).trans k6) k7
  have hb7 : Hid (Below w.heap.size w w7) := (((b3.trans (b4.mono (by omega))).trans (b5.mono (by omega))).trans (b6.mono (by omega))).trans (b7.mono (by omega))
  have hW : Hid (w7 = _) := hw7.trans (by rw [hw6, hw5, hw4, hw3])
  have hzw : w.heap.size ≤ w7.heap.size := by omega
  have cN := least_nil_a _ _ w7 hFA.out
  clear hw3 hw4 hw5 hw6 hw7 k4 k5 k6 k7 b3 b4 b5 b6 b7 z3 z4 z5 z6 z7
  go_enter Try.func7, Try.ntmps7
  go_wp2_with (first | (go_at_call 12; go_in) | (go_at_call 6; rw [← hW.out]; refine cN.mono ?_))
  first | rintro e w8 ⟨rfl, hb8⟩ | rintro e w8 rfl hb8
  have c2 := least_a_b _ _ _ _ w8 ((hFA.out.kept hb8).mono hb8.size) ((hFB.out.kept hb8).mono hb8.size)
  have hb08 := Lib.hid (hb7.out.trans (hb8.mono hzw))
  replace hb8 := Lib.hid hb8
  clear cN hW
  go_wp2_with (go_at_call 6; refine c2.mono ?_)
  first | rintro e w9 ⟨rfl, hb9⟩ | rintro e w9 rfl hb9
  have hb79 := hb8.out.trans (hb9.mono hb8.out.size)
  have c3 := least_a_a _ _ _ w9 ((hFA.out.kept hb79).mono hb79.size) ((hFA.out.kept hb79).mono hb79.size)
  have hb09 := Lib.hid (hb08.out.trans (hb9.mono hb08.out.size))
  clear c2 hb79 hb9 hb8
  go_wp2_with (go_at_call 6; refine c3.mono ?_)
  first | rintro e w10 ⟨rfl, hb10⟩ | rintro e w10 rfl hb10
  have hb010 := Lib.hid (hb09.out.trans (hb10.mono hb09.out.size))
  clear c3 hb10
  go_wp2_with fail
  go_ret
  exact ⟨rfl, hb010.out⟩
end Go.Proofs.Ytehcbicngbibgaa
