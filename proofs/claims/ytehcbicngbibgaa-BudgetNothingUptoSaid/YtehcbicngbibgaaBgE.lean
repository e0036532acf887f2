/- The walk of BudgetNothing. -/
import Derived.Test.YtehcbicngbibgaaBgP
namespace Go.Proofs.Ytehcbicngbibgaa
open Go Go.RowKit Go.Maps

theorem SeatAt.attrs {w : World} {B : Nat} {s : Seat} (h : SeatAt w B s) : AttrsAt w B s := by
  obtain ⟨N, L, h1, _⟩ := h
  exact ⟨N, L, h1⟩
/-- A document of unlike nodes: all that Least asks. -/
theorem doc_at {w : World} {ao : Option Addr} {n cap : Nat} {S : List Seat} (hF : Flat w w.heap.size (.slice ao n cap) 0 S) (hS : ∀ s ∈ S, SeatAt w w.heap.size s) (hsum : (S.map fun s => 1 + s.an).sum ≤ 1048576)
    (hn : (ids S).Nodup) (hg : GoodSeats w w.heap.size S) : ∃ AN AL, DocAt w ao n cap S AN AL := by
  have hall : ∀ s : Seat, ∃ q : (Nat → ByteArray) × (Nat → Val), s ∈ S → FieldsAt w w.heap.size s.aa s.an q.1 q.2 ∧ ∀ i, i < s.an → ValAt w w.heap.size (q.2 i) := fun s => by
    by_cases h : s ∈ S
    · obtain ⟨N, L, h1, h2⟩ := hS s h
      exact ⟨(N, L), fun _ => ⟨h1, h2⟩⟩
    · exact ⟨(fun _ => ByteArray.empty, fun _ => default), fun h' => absurd h' h⟩
  obtain ⟨q, hq⟩ := Classical.skolem.1 hall
  exact ⟨fun s => (q s).1, fun s => (q s).2, hF, hn, hg.1, hsum, fun s hs => (hq s hs).1, fun s hs i j hij hj => hg.2 s hs _ _ (hq s hs).1 i j hij hj, fun s hs i hi => refl_any w w.heap.size _ ((hq s hs).2 i hi)⟩

set_option maxHeartbeats 4000000 in
set_option maxRecDepth 100000 in
theorem nothing_any (ao : Option Addr) (n cap : Nat) (S : List Seat) (w : World) (hF : Flat w w.heap.size (.slice ao n cap) 0 S) (hS : ∀ s ∈ S, SeatAt w w.heap.size s) (hsum : (S.map fun s => 1 + s.an).sum ≤ 1048576) :
    Calls Try.prog 3 #[.slice ao n cap] w fun e w' => e = .returned (.bool true) ∧ Below w.heap.size w w' := by
  have hmm := @run_makeMap Try.prog
  have hn60 := hF.len _ _ _ rfl
  have hA : ∀ s ∈ S, AttrsAt w w.heap.size s := fun s hs => (hS s hs).attrs
  have hlen := Nat.le_trans (len_le S) hsum
  obtain ⟨W1, hW1⟩ : ∃ W1, W1 = w.alloc (.map #[] 0) := ⟨_, rfl⟩
  have hb1 : Below w.heap.size w W1 := by rw [hW1]; exact (Below.refl _ w).alloc (Nat.le_refl _) _
  have hz1 : W1.heap.size = w.heap.size + 1 := by rw [hW1]; simp
  have hm1 : W1.ownsMap Try.prog 3 R w.heap.size 0 (marks []) := by rw [hW1]; exact World.ownsMap_made _ _ _ _
  have cU := unlike_any w.heap.size _ 0 S w hF hA w.heap.size [] W1 hb1 (Nat.le_refl _) (by omega) hm1 (by simp) (by simpa using hlen)
  have hP : Hid (∀ W2, Below w.heap.size w W2 → Calls Try.prog 5 #[.slice ao n cap] W2 fun e w' => BoolPost W2 e w') := fun W2 h2 => plain_any w.heap.size _ 0 S w hF hA W2 h2 h2.size
  replace hW1 := Lib.hid hW1
  replace hb1 := Lib.hid hb1
  replace hm1 := Lib.hid hm1
  replace hF := Lib.hid hF
  replace hS := Lib.hid hS
  replace hsum := Lib.hid hsum
  replace cU := Lib.hid cU
  clear hA
  go_enter Try.func3, Try.ntmps3
  go_wp2_with (first | (rw [← hW1.out]) | (go_at_call 4; refine cU.out.mono ?_))
  rintro e W2 ⟨ht2, hres⟩
  have hz2 := ht2.size
  have hb2 := Lib.hid (hb1.out.trans (ht2.toBelow (Nat.le_refl _) (fun k hk => by simp [nilS, Value.ownBlock] at hk) (by omega)))
  clear ht2 cU hW1
  have fallen : Hid (∀ W, Below w.heap.size w W → Below w.heap.size w W) := fun _ h => h
  rcases hres with rfl | ⟨rfl, hm2⟩
  · have c1 := least_none W2
    go_wp2_with (go_at_call 6; refine c1.mono ?_)
    first | rintro e W3 rfl hb3 | rintro e W3 ⟨rfl, hb3⟩
    have hb03 := Lib.hid (hb2.out.trans (hb3.mono hb2.out.size))
    clear c1 hb3
    have c2 := lives_any W3
    go_wp2_with (go_at_call 7; refine c2.mono ?_)
    first | rintro e W4 rfl hb4 | rintro e W4 ⟨rfl, hb4⟩
    have hb04 := Lib.hid (hb03.out.trans (hb4.mono hb03.out.size))
    clear c2 hb4
    go_wp2_with fail
    go_ret
    exact ⟨rfl, hb04.out⟩
  · obtain ⟨hm2, hn2, hg2⟩ := hm2
    rw [List.nil_append] at hm2 hn2
    have cP := hP.out W2 hb2.out
    replace hm2 := Lib.hid hm2
    replace hn2 := Lib.hid hn2
    replace hg2 := Lib.hid hg2
    replace cP := Lib.hid cP
    go_wp2_with (go_at_call 5; refine cP.out.mono ?_)
    rintro e W3 ⟨⟨bb, rfl⟩, hb3⟩
    have hb03 := Lib.hid (hb2.out.trans (hb3.mono hb2.out.size))
    have hm3 : Hid (W3.ownsMap Try.prog 3 R w.heap.size (ids S).length (marks (ids S))) := hm2.out.kept (low_none hb3) (by simp)
    clear cP hb3
    cases bb with
    | false =>
      have c1 := least_none W3
      go_wp2_with (go_at_call 6; refine c1.mono ?_)
      first | rintro e W4 rfl hb4 | rintro e W4 ⟨rfl, hb4⟩
      have hb04 := Lib.hid (hb03.out.trans (hb4.mono hb03.out.size))
      clear c1 hb4
      have c2 := lives_any W4
      go_wp2_with (go_at_call 7; refine c2.mono ?_)
      first | rintro e W5 rfl hb5 | rintro e W5 ⟨rfl, hb5⟩
      have hb05 := Lib.hid (hb04.out.trans (hb5.mono hb04.out.size))
      clear c2 hb5
      go_wp2_with fail
      go_ret
      exact ⟨rfl, hb05.out⟩
    | true =>
      obtain ⟨AN, AL, hD⟩ := doc_at hF.out hS.out hsum.out hn2.out hg2.out
      have c1 := least_new (hD.kept hb03.out)
      replace hD := Lib.hid hD
      go_wp2_with (go_at_call 6; refine c1.mono ?_)
      first | rintro e W4 rfl hb4 | rintro e W4 ⟨rfl, hb4⟩
      have hb04 := Lib.hid (hb03.out.trans (hb4.mono hb03.out.size))
      have hm4 : Hid (W4.ownsMap Try.prog 3 R w.heap.size (ids S).length (marks (ids S))) := hm3.out.kept (low_none hb4) (by simp)
      clear c1 hb4
      obtain ⟨W5, hW5⟩ : ∃ W5, W5 = W4.alloc (.cells #[.int .i64 (S.length : Nat), .int .i64 0, .int .i64 (att [] S : Nat), .int .i64 (S.length : Nat), .int .i64 0] 27) := ⟨_, rfl⟩
      have hb45 : Below W4.heap.size W4 W5 := by rw [hW5]; exact (Below.refl _ _).alloc (Nat.le_refl _) _
      have hb05 := Lib.hid (hb04.out.trans (hb45.mono hb04.out.size))
      have hm5 : Hid (W5.ownsMap Try.prog 3 R w.heap.size (ids S).length (marks (ids S))) := hm4.out.kept (low_none hb45) (by simp)
      have hr5 : W5.heap[W4.heap.size]? = some (.cells #[.int .i64 (S.length : Nat), .int .i64 0, .int .i64 (att [] S : Nat), .int .i64 (S.length : Nat), .int .i64 0] 27 (0, 0)) := by rw [hW5]; exact heap_alloc_new W4 _
      have hz45 : W5.heap.size = W4.heap.size + 1 := by rw [hW5]; simp
      have c2 := least_gone (hD.out.kept hb05.out)
      replace hr5 := Lib.hid hr5
      replace hW5 := Lib.hid hW5
      clear hb45 hm4 hm3
      go_wp2_with (first | (rw [← hW5.out]) | (go_at_call 6; refine c2.mono ?_))
      first | rintro e W6 rfl hb6 | rintro e W6 ⟨rfl, hb6⟩
      have hb06 := Lib.hid (hb05.out.trans (hb6.mono hb05.out.size))
      have hm6 : Hid (W6.ownsMap Try.prog 3 R w.heap.size (ids S).length (marks (ids S))) := hm5.out.kept (low_none hb6) (by simp)
      have hr6 := Lib.hid ((hb6.block _ (by omega)).trans hr5.out)
      have hz6 := hb6.size
      clear c2 hb6 hm5 hr5 hW5
      obtain ⟨W7, hW7⟩ : ∃ W7, W7 = W6.alloc (.cells #[.int .i64 0, .int .i64 0, .int .i64 0, .int .i64 0, .int .i64 (n : Nat)] 27) := ⟨_, rfl⟩
      have hb67 : Below W6.heap.size W6 W7 := by rw [hW7]; exact (Below.refl _ _).alloc (Nat.le_refl _) _
      have hb07 := Lib.hid (hb06.out.trans (hb67.mono hb06.out.size))
      have hm7 : Hid (W7.ownsMap Try.prog 3 R w.heap.size (ids S).length (marks (ids S))) := hm6.out.kept (low_none hb67) (by simp)
      have hr7 := Lib.hid ((hb67.block _ (by omega)).trans hr6.out)
      have hs7 : W7.heap[W6.heap.size]? = some (.cells #[.int .i64 0, .int .i64 0, .int .i64 0, .int .i64 0, .int .i64 (n : Nat)] 27 (0, 0)) := by rw [hW7]; exact heap_alloc_new W6 _
      have hz67 : W7.heap.size = W6.heap.size + 1 := by rw [hW7]; simp
      have c3 := least_self (hD.out.kept hb07.out)
      replace hs7 := Lib.hid hs7
      replace hW7 := Lib.hid hW7
      clear hb67 hm6 hr6
      go_wp2_with (first | (rw [← hW7.out]) | (go_at_call 6; refine c3.mono ?_))
      first | rintro e W8 rfl hb8 | rintro e W8 ⟨rfl, hb8⟩
      have hb08 := Lib.hid (hb07.out.trans (hb8.mono hb07.out.size))
      have hm8 : W8.ownsMap Try.prog 3 R w.heap.size (ids S).length (marks (ids S)) := hm7.out.kept (low_none hb8) (by simp)
      have hr8 := (hb8.block _ (by omega)).trans hr7.out
      have hs8 := (hb8.block _ (by omega)).trans hs7.out
      have hsz : Maps.size (marks (ids S)) = S.length := by rw [size_marks _ hn2.out]; simp [ids]
      have hln := fun ty => hm8.len Try.underlying23 ty
      rw [hsz] at hln
      have x0 : W8.cell? ⟨W4.heap.size, 0, none⟩ = some (.int .i64 (S.length : Nat)) := by simp [World.cell?, hr8]
      have x3 : W8.cell? ⟨W4.heap.size, 3, none⟩ = some (.int .i64 (S.length : Nat)) := by simp [World.cell?, hr8]
      have x4 : W8.cell? ⟨W4.heap.size, 4, none⟩ = some (.int .i64 0) := by simp [World.cell?, hr8]
      have y0 : W8.cell? ⟨W6.heap.size, 0, none⟩ = some (.int .i64 0) := by simp [World.cell?, hs8]
      have y1 : W8.cell? ⟨W6.heap.size, 1, none⟩ = some (.int .i64 0) := by simp [World.cell?, hs8]
      have y2 : W8.cell? ⟨W6.heap.size, 2, none⟩ = some (.int .i64 0) := by simp [World.cell?, hs8]
      have y3 : W8.cell? ⟨W6.heap.size, 3, none⟩ = some (.int .i64 0) := by simp [World.cell?, hs8]
      have y4 : W8.cell? ⟨W6.heap.size, 4, none⟩ = some (.int .i64 (n : Nat)) := by simp [World.cell?, hs8]
      have c4 := lives_any W8
      replace hm8 := Lib.hid hm8
      replace hr8 := Lib.hid hr8
      replace hs8 := Lib.hid hs8
      replace hsz := Lib.hid hsz
      clear c3 hb8 hm7 hW7 hr7 hs7
      go_wp2_with (go_at_call 7; refine c4.mono ?_)
      first | rintro e W9 rfl hb9 | rintro e W9 ⟨rfl, hb9⟩
      have hb09 := Lib.hid (hb08.out.trans (hb9.mono hb08.out.size))
      clear c4 hb9
      go_wp2_with fail
      go_ret
      exact ⟨rfl, hb09.out⟩
end Go.Proofs.Ytehcbicngbibgaa
