/- The contract of lex.Words. -/
import Derived.Test.YtimdkdengdhglaaGreatDoorLexB
import Derived.Test.YtimdkdengdhglaaGreatDoorLexF
namespace Go.Proofs.YtimdkdengdhglaaGreatDoor
open Go Go.RowKit

/-- A word's four cells. -/
def wcell (x : Nat × List UInt8 × Int × Nat) : List Value := [.int .u8 (x.1 : Nat), .string (bs x.2.1), .int .i64 x.2.2.1, .int .i64 (x.2.2.2 : Nat)]
def wcells (l : List (Nat × List UInt8 × Int × Nat)) : List Value := l.flatMap wcell
theorem wcells_len (l : List (Nat × List UInt8 × Int × Nat)) : (wcells l).length = l.length * 4 := by
  induction l with
  | nil => rfl
  | cons x l ih => simp only [wcells, List.flatMap_cons, List.length_append, List.length_cons] at *; rw [ih]; simp [wcell]; omega
theorem wcells_snoc (l : List (Nat × List UInt8 × Int × Nat)) (x : Nat × List UInt8 × Int × Nat) : wcells (l ++ [x]) = wcells l ++ wcell x := by simp [wcells]

/-- Words: of a text; its number and its error where there are none. -/
def wordsL (l : List UInt8) : Except (Nat × Nat) (List (Nat × List UInt8 × Int × Nat)) :=
  if 65536 < l.length then .error (0, 3)
  else match wordsGo (l.length + 1) (skipL l 0).1 (skipL l 0).2 [] with
    | .ok ws => .ok ws
    | .error ln => .error (ln, 4)

def WordsPost (w : World) (o : Except (Nat × Nat) (List (Nat × List UInt8 × Int × Nat))) (e : Ending) (w' : World) : Prop :=
  Below w.heap.size w w' ∧
  match o with
  | .ok ws => ∃ v, e = .returned (.tuple #[v, .int .i64 0, .int .i64 0]) ∧ w'.ownsRow w.heap.size 86 4 v ws.length (wcells ws)
  | .error (ln, er) => e = .returned (.tuple #[.slice none 0 0, .int .i64 (ln : Nat), .int .i64 (er : Nat)])

theorem Touch.grownBy {b : Nat} {w w' : World} (h : Touch (fun k => k = b) w w') : w.grownBy w' (some b) :=
  ⟨h.os, h.tape, h.output, h.size, fun k hk hne => h.block k hk (fun e => hne (by rw [e]))⟩
theorem own_touch {b : Nat} {w w' : World} {base : Nat} {e : TypeId} {size : Nat} {v : Value} {n : Nat} {xs : List Value} (h : w.ownsRow base e size v n xs) (ht : Touch (fun k => k = b) w w') (hb : b < base) : w'.ownsRow base e size v n xs :=
  h.kept ht.grownBy (by
    cases hv : v.ownBlock with
    | none => exact .inl rfl
    | some k => exact .inr (fun e => by have := (h.lt k hv).1; simp at e; omega))
theorem own_mono {w : World} {base base' : Nat} {e : TypeId} {size : Nat} {v : Value} {n : Nat} {xs : List Value} (h : w.ownsRow base e size v n xs) (hb : base' ≤ base) : w.ownsRow base' e size v n xs := by
  refine ⟨h.1, h.2.imp_right ?_⟩
  rintro ⟨g, cap, cur, h1, h2, h3⟩
  exact ⟨g, cap, cur, h1, by omega, h3⟩
theorem infoWord : (Tryz.prog.info? 86).map (fun i => (i.zero, i.size, i.bytes)) = some (some (.agg #[.int .u8 0, .string ⟨#[]⟩, .int .i64 0, .int .i64 0]), 4, 40) := by kernel_rfl

set_option maxHeartbeats 4000000 in
set_option maxRecDepth 100000 in
theorem words_any (l : List UInt8) (w : World) (hl : l.length ≤ 65536) (hE : Env w) :
    Calls Tryz.prog 16 #[.string (bs l)] w (WordsPost w (wordsL l)) := by
  have hsz := bs_size l
  obtain ⟨i0, hi, hz0, hz1, hz2⟩ := info_parts infoWord
  have hE0 := Lib.hid hE
  have hEb := Lib.hid hE.size
  clear hE
  have hS0 : Hid (Scan (w.alloc (.cells #[.string (bs l), .int .i64 0] 83)) w.heap.size l (0 : Nat)) := heap_alloc_new w _
  have hW : Hid (wordsL l = match wordsGo (l.length + 1) (skipL l 0).1 (skipL l 0).2 [] with | .ok ws => .ok ws | .error ln => .error (ln, 4)) := by
    show _ = _; unfold wordsL; rw [if_neg (by omega)]
  have hskn := skipL_sum l 0
  generalize hk1 : (skipL l 0).1 = m0 at *
  generalize hk2 : (skipL l 0).2 = n0 at *
  have cK := skip_any w.heap.size l 0 _ (by omega) hS0.out
  rw [hk1, hk2] at cK
  clear hk1 hk2
  go_enter Tryz.func16, Tryz.ntmps16
  go_wp2_with (go_at_call 82; refine cK.mono ?_)
  rintro e W0 ⟨rfl, hs0, ht0⟩
  have hb0 : Below w.heap.size w W0 := ((Below.refl _ w).alloc (Nat.le_refl _) _).trans (ht0.to_below (by simp) (fun k hk e => by omega))
  have hz0' := hs0.lt
  clear cK ht0 hS0
  go_wp2_with fail
  go_loopg [6] (l.length + 1) (fun g v wr => ∃ (m : List UInt8) (ln : Nat) (acc : List (Nat × List UInt8 × Int × Nat)), Scan wr w.heap.size m (ln : Int) ∧ wr.ownsRow (w.heap.size + 1) 86 4 v acc.length (wcells acc) ∧ Below w.heap.size w wr ∧
    Hid (wordsGo g m ln acc = wordsGo (l.length + 1) m0 n0 []) ∧ m.length < g ∧ acc.length + m.length ≤ l.length ∧ m.length + ln ≤ l.length)
  case atStart => exact ⟨m0, n0, [], hs0, World.ownsRow_nil _ _ _ _, hb0, rfl, by omega, by simp; omega, by omega⟩
  case round =>
    obtain ⟨m, ln, acc, hs, hown, hb, hgo, hmg, hacc, hmln⟩ := hrel
    clear hs0 hb0 hz0'
    obtain ⟨g', rfl⟩ : ∃ g', gk = g' + 1 := ⟨gk - 1, by omega⟩
    cases m with
    | nil =>
      have c0 := hs.c0
      have hfin : Hid (WordsPost w (wordsL l) (.returned (.tuple #[u6, .int .i64 0, .int .i64 0])) wr) := by
        refine ⟨hb, ?_⟩
        rw [hW.out, ← hgo.out]
        exact ⟨u6, rfl, own_mono hown (by omega)⟩
      have he : (bs []).toList.isEmpty = true := by rw [Lib.toList_data]; rfl
      generalize bs [] = S at *
      clear hs hown hb hgo
      go_wp2
      go_ret3
      exact hfin.out
    | cons c r =>
      have c0 := hs.c0
      have he : (bs (c :: r)).toList.isEmpty = false := by rw [Lib.toList_data]; rfl
      have hEr := hE0.out.below hb hEb.out
      have cW := word_any w.heap.size (c :: r) ln wr (by omega) (by simp) hEr hEb.out hs
      have hlt := hs.lt
      have hgo' : Hid (wordsGo (g' + 1) (c :: r) ln acc = match wordL (c :: r) with
        | none => .error ln
        | some (k, s, n, r) => wordsGo g' (skipL r ln).1 (skipL r ln).2 (acc ++ [(k, s, n, ln)])) := by show _ = _; rfl
      have hwl := fun k s n m' => wordL_lt (c :: r) (k := k) (s := s) (n := n) (m := m')
      replace hwl := Lib.hid hwl
      generalize bs (c :: r) = S at *
      clear hs hEr
      replace hown := Lib.hid hown
      go_wp2_with (go_at_call 83; refine cW.mono ?_)
      clear cW
      intro e W1 hp
      cases hx : wordL (c :: r) with
      | none =>
        rw [hx] at hp
        obtain ⟨⟨k, s, n, rfl⟩, ht1, m1, hs1⟩ := hp
        have hb1 := hb.trans (ht1.to_below (Nat.le_of_lt hlt) (fun k hk e => by omega))
        have c1 := hs1.c1
        have hfin : Hid (∀ W2, Below w.heap.size W1 W2 → WordsPost w (wordsL l) (.returned (.tuple #[.slice none 0 0, .int .i64 ln, .int .i64 4])) W2) := fun W2 h2 => by
          refine ⟨hb1.trans h2, ?_⟩
          rw [hW.out, ← hgo.out, hgo'.out, hx]
          rfl
        have hlt1 := hs1.lt
        have hfr := hs1.fr 1
        replace hx := Lib.hid hx
        replace hb := Lib.hid hb
        clear ht1 hs1 hb1
        go_wp2
        go_quiet (fail)
        go_wp2
        go_ret3
        exact hfin.out _ (below_drewN ((Below.refl _ W1).alloc (by omega) _) _)
      | some x =>
        obtain ⟨k, s, n, r'⟩ := x
        rw [hx] at hp
        obtain ⟨rfl, hs1, ht1⟩ := hp
        have hb1 := hb.trans (ht1.to_below (Nat.le_of_lt hlt) (fun k hk e => by omega))
        have hlt1 := hs1.lt
        have hown1 := own_touch hown.out ht1 (by omega)
        have hr' : r'.length < (c :: r).length := hwl.out k s n r' hx
        have hr2 : r'.length + 1 ≤ (c :: r).length := hr'
        have hgo2 : Hid (wordsGo g' (skipL r' ln).1 (skipL r' ln).2 (acc ++ [(k, s, n, ln)]) = wordsGo (l.length + 1) m0 n0 []) := by
          show _ = _; rw [← hgo.out, hgo'.out, hx]
        replace hx := Lib.hid hx
        replace hb := Lib.hid hb
        have hown2 := (hown1.alloc (.cells #[.int .u8 (k : Nat), .string (bs s), .int .i64 n, .int .i64 (ln : Nat)] 86)).alloc (.cells #[.int .u8 (k : Nat), .string (bs s), .int .i64 n, .int .i64 (ln : Nat)] 86)
        have hs2 := (hs1.alloc (.cells #[.int .u8 (k : Nat), .string (bs s), .int .i64 n, .int .i64 (ln : Nat)] 86)).alloc (.cells #[.int .u8 (k : Nat), .string (bs s), .int .i64 n, .int .i64 (ln : Nat)] 86)
        have hb2 := (hb1.alloc (by omega) (.cells #[.int .u8 (k : Nat), .string (bs s), .int .i64 n, .int .i64 (ln : Nat)] 86)).alloc (by simp; omega) (.cells #[.int .u8 (k : Nat), .string (bs s), .int .i64 n, .int .i64 (ln : Nat)] 86)
        have hN := two_new W1 (.cells #[.int .u8 (k : Nat), .string (bs s), .int .i64 n, .int .i64 (ln : Nat)] 86) (.cells #[.int .u8 (k : Nat), .string (bs s), .int .i64 n, .int .i64 (ln : Nat)] 86)
        have hlen := tw_dw part (c :: r)
        have HH := Lib.hid (And.intro hs2 (And.intro hb2 hown2))
        clear ht1 hs1 hb1 hown1 hs2 hb2 hlen hgo hgo' hown
        have HN := Lib.hid hN
        clear hN
        go_wp2_with (at_builtin; refine wpList_append_own _ rfl _ _ 49 rfl (w.heap.size + 1) 86 i0 _ 4 40 Tryz.underlying49 hi hz0 hz1 hz2 rfl (by decide) _ _ _ rfl HH.out.2.2 ⟨W1.heap.size + 1, 0, none⟩ 1 1 (wcell (k, s, n, ln)) rfl rfl ?c1 ?c2 ?c3 ?c4 ?c5 ?_)
        case c1 =>
          intro j u hj
          match j, hj with
          | 0, hj => simp [wcell] at hj; subst hj; simp [Addr.add]
          | 1, hj => simp [wcell] at hj; subst hj; simp [Addr.add]
          | 2, hj => simp [wcell] at hj; subst hj; simp [Addr.add]
          | 3, hj => simp [wcell] at hj; subst hj; simp [Addr.add]
          | j + 4, hj => simp [wcell] at hj
        case c2 => intro u hu; simp [wcell] at hu; rcases hu with rfl | rfl | rfl | rfl <;> rfl
        case c3 => unfold maxLen; omega
        case c4 => omega
        case c5 => simp; omega
        intro v' w2 hown' hgrow _
        obtain ⟨hs2, hb2, hown2⟩ := HH.out
        have hs3 := hs2.of_block (hgrow.block w.heap.size (by simp; omega) (fun e => by have := (hown2.lt w.heap.size e.symm).1; omega))
        have hb3 := hb2.grown hgrow (by simp; omega) (fun k hk => by have := (hown2.lt k hk).1; omega)
        rw [← wcells_snoc] at hown'
        clear hs2 hb2 hown2 hgrow HH HN
        have hrl : r'.length + ln ≤ l.length := by have := hr'; simp at this hmln; omega
        have cK := skip_any w.heap.size r' ln w2 (by omega) hs3
        have hlt3 := hs3.lt
        have hsum := skipL_sum r' ln
        have hle := skipL_le r' ln
        replace hown' := Lib.hid hown'
        clear hs3
        generalize hk1 : (skipL r' ln).1 = m2 at *
        generalize hk2 : (skipL r' ln).2 = n2 at *
        clear hk1 hk2
        go_wp2_with (go_at_call 82; refine cK.mono ?_)
        rintro e W4 ⟨rfl, hs4, ht4⟩
        have hb4 := hb3.trans (ht4.to_below (Nat.le_of_lt hlt3) (fun k hk e => by omega))
        have hown4 := own_touch hown'.out ht4 (by omega)
        clear cK ht4 hb3 hown'
        go_wp2
        go_roundg g'
        case measure => omega
        case rel => exact ⟨m2, n2, acc ++ [(k, s, n, ln)], hs4, by simpa using hown4, hb4, hgo2, by simp at hmg hr2; omega, by simp at hacc hr2 ⊢; omega, by omega⟩

set_option maxHeartbeats 1000000 in
set_option maxRecDepth 100000 in
theorem words_over (l : List UInt8) (w : World) (hl : 65536 < l.length) (hm : l.length ≤ 9223372036854775807) :
    Calls Tryz.prog 16 #[.string (bs l)] w (WordsPost w (wordsL l)) := by
  have hsz := bs_size l
  have hfin : Hid (WordsPost w (wordsL l) (.returned (.tuple #[.slice none 0 0, .int .i64 0, .int .i64 3])) w) := by
    refine ⟨Below.refl _ _, ?_⟩
    unfold wordsL
    rw [if_pos hl]
    rfl
  go_enter Tryz.func16, Tryz.ntmps16
  go_wp2
  go_ret3
  exact hfin.out

theorem words_all (l : List UInt8) (w : World) (hm : l.length ≤ 9223372036854775807) (hE : Env w) :
    Calls Tryz.prog 16 #[.string (bs l)] w (WordsPost w (wordsL l)) := by
  by_cases hl : l.length ≤ 65536
  · exact words_any l w hl hE
  · exact words_over l w (by omega) hm
end Go.Proofs.YtimdkdengdhglaaGreatDoor
