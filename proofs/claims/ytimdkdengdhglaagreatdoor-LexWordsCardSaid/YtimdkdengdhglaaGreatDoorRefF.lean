/- The contract of the reference's Words: it answers as Words does. -/
import Derived.Test.YtimdkdengdhglaaGreatDoorRefE
import Derived.Test.YtimdkdengdhglaaGreatDoorLexG
namespace Go.Proofs.YtimdkdengdhglaaGreatDoor
open Go Go.RowKit

theorem Below_grown0 {w w' : World} (h : Below w.heap.size w w') : w.grownBy w' none := ⟨h.os, h.tape, h.output, h.size, fun k hk _ => h.block k hk⟩
theorem rword_any (l : List UInt8) (k : Nat) (c : UInt8) (r : List UInt8) (w : World) (hd : l.drop k = c :: r) (hlen : l.length ≤ 65536) :
    Calls Tryz.prog 84 #[.string (bs l), .int .i64 (k : Nat)] w (RWordPost l w (wordL (c :: r))) := by
  by_cases h40 : c = 40
  · have := rword_paren l k c r w hd hlen (.inl h40)
    rw [if_pos h40] at this
    rw [wordL, if_pos h40]; exact this
  · by_cases h41 : c = 41
    · have := rword_paren l k c r w hd hlen (.inr h41)
      rw [if_neg h40] at this
      rw [wordL, if_neg h40, if_pos h41]; exact this
    · by_cases h34 : c = 34
      · subst h34
        rw [wordL, if_neg h40, if_neg h41, if_pos rfl]
        exact rword_text l k r w hd hlen
      · rw [wordL_rest c r h40 h41 h34]
        by_cases hp : part c = true
        · exact rword_name l k c r w hd hlen h40 h41 h34 hp
        · have hp' : part c = false := by simpa using hp
          have : restL (c :: r) = none := by
            unfold restL
            have ht : (c :: r).takeWhile part = [] := by rw [List.takeWhile_cons, if_neg hp]
            rw [ht]; rfl
          rw [this]
          exact rword_bad l k c r w hd hlen h40 h41 h34 hp'

/-! What is left is an end of the text. -/
theorem textL_suf : ∀ (f : Bool) (l acc t r : List UInt8), textL f l acc = some (t, r) → r <:+ l
  | _, [], acc, t, r, h => by simp [textL] at h
  | true, d :: m, acc, t, r, h => by
    rw [textL] at h
    cases he : escOf d with
    | none => simp [he] at h
    | some e =>
      simp only [he, Option.bind_some] at h
      exact (textL_suf false m _ t r h).trans (List.suffix_cons d m)
  | false, c :: m, acc, t, r, h => by
    rw [textL] at h
    split at h
    · simp at h; obtain ⟨rfl, rfl⟩ := h; exact List.suffix_cons c m
    · split at h
      · simp at h
      · split at h
        · exact (textL_suf true m _ t r h).trans (List.suffix_cons c m)
        · exact (textL_suf false m _ t r h).trans (List.suffix_cons c m)
theorem wordL_suf (l : List UInt8) {k : Nat} {s : List UInt8} {n : Int} {m : List UInt8} (h : wordL l = some (k, s, n, m)) : m <:+ l := by
  cases l with
  | nil => simp [wordL] at h
  | cons c r =>
    rw [wordL] at h
    split at h
    · simp at h; obtain ⟨_, _, _, rfl⟩ := h; exact List.suffix_cons c r
    · split at h
      · simp at h; obtain ⟨_, _, _, rfl⟩ := h; exact List.suffix_cons c r
      · split at h
        · cases hx : textL false r [] with
          | none => simp [hx] at h
          | some x =>
            simp only [hx, Option.bind_some] at h
            split at h
            · simp at h; obtain ⟨_, _, _, rfl⟩ := h
              exact (textL_suf false r [] x.1 x.2 (by rw [hx])).trans (List.suffix_cons c r)
            · simp at h
        · unfold restL at h
          split at h
          · cases hv : numL ((c :: r).takeWhile part) with
            | none => simp [hv] at h
            | some v => simp [hv] at h; obtain ⟨_, _, _, rfl⟩ := h; exact List.dropWhile_suffix part
          · split at h
            · simp at h; obtain ⟨_, _, _, rfl⟩ := h; exact List.dropWhile_suffix part
            · simp at h
theorem suf_drop {l m : List UInt8} (h : m <:+ l) : l.drop (l.length - m.length) = m := by
  obtain ⟨p, rfl⟩ := h
  simp

/-- Words from where what is idle may stand. -/
def goF (r : List UInt8) (ln : Nat) (acc : List Wd) : Except Nat (List Wd) := wordsGo (r.length + 1) (skipL r ln).1 (skipL r ln).2 acc
theorem goF_nil (ln : Nat) (acc : List Wd) : goF [] ln acc = .ok acc := by unfold goF; rw [skipL]; rfl
theorem goF_eq (a b : List UInt8) (la lb : Nat) (acc : List Wd) (h : skipL a la = skipL b lb) : goF a la acc = goF b lb acc := by
  unfold goF
  rw [h]
  have h1 := skipL_le a la
  have h2 := skipL_le b lb
  rw [h] at h1
  exact wordsGo_fuel _ _ _ _ _ (by omega) (by omega)
theorem goF_word (c : UInt8) (r : List UInt8) (ln : Nat) (acc : List Wd) (h10 : c ≠ 10) (hb : ¬ (c = 32 ∨ c = 9)) (h59 : c ≠ 59) :
    goF (c :: r) ln acc = match wordL (c :: r) with
      | none => .error ln
      | some (k, s, n, m) => goF m ln (acc ++ [(k, s, n, ln)]) := by
  have hs : skipL (c :: r) ln = (c :: r, ln) := by rw [skipL, if_neg h10, if_neg hb, if_neg h59]
  unfold goF
  rw [hs]
  show (match wordL (c :: r) with | none => Except.error ln | some (k, s, n, m) => wordsGo ((c :: r).length) (skipL m ln).1 (skipL m ln).2 (acc ++ [(k, s, n, ln)])) = _
  cases hx : wordL (c :: r) with
  | none => rfl
  | some x =>
    obtain ⟨k, s, n, m⟩ := x
    have h1 := wordL_lt (c :: r) hx
    have h2 := skipL_le m ln
    exact wordsGo_fuel _ _ _ _ _ (by omega) (by omega)
theorem dw10 (l : List UInt8) (j : Nat) (h : j < l.length) (hc : l[j] ≠ 10) : (l.drop j).dropWhile (· != 10) = (l.drop (j + 1)).dropWhile (· != 10) := by
  rw [List.drop_eq_getElem_cons h, List.dropWhile_cons, if_pos (by simpa using hc)]
theorem dw10_stop (l : List UInt8) (j : Nat) (h : j < l.length) (hc : l[j] = 10) : (l.drop j).dropWhile (· != 10) = l.drop j := by
  rw [List.drop_eq_getElem_cons h, List.dropWhile_cons, if_neg (by simp [hc])]
theorem goF_rem (l : List UInt8) (j : Nat) (h : j < l.length) (hc : l[j] = 59) (ln : Nat) (acc : List Wd) : goF (l.drop j) ln acc = goF ((l.drop j).dropWhile (· != 10)) ln acc := by
  apply goF_eq
  rw [dw10 l j h (by rw [hc]; decide), List.drop_eq_getElem_cons h, hc, skipL_rem]

theorem rwords_err (l : List UInt8) (hl : l.length ≤ 65536) (ln : Nat) (h : goF l 0 [] = .error ln) : wordsL l = .error (ln, 4) := by
  unfold wordsL
  rw [if_neg (by omega)]
  unfold goF at h
  rw [h]
theorem rwords_ok (l : List UInt8) (hl : l.length ≤ 65536) (ws : List Wd) (h : goF l 0 [] = .ok ws) : wordsL l = .ok ws := by
  unfold wordsL
  rw [if_neg (by omega)]
  unfold goF at h
  rw [h]

set_option maxHeartbeats 8000000 in
set_option maxRecDepth 100000 in
theorem rwords_any (l : List UInt8) (w : World) (hl : l.length ≤ 65536) :
    Calls Tryz.prog 17 #[.string (bs l)] w (WordsPost w (wordsL l)) := by
  have hsz := bs_size l
  obtain ⟨i0, hi, hz0, hz1, hz2⟩ := info_parts infoWord
  obtain ⟨R, hR⟩ : ∃ R, R = goF l 0 [] := ⟨_, rfl⟩
  have hWe : Hid (∀ ln, R = .error ln → wordsL l = .error (ln, 4)) := fun ln h => rwords_err l hl ln (hR.symm.trans h)
  have hWo : Hid (∀ ws, R = .ok ws → wordsL l = .ok ws) := fun ws h => rwords_ok l hl ws (hR.symm.trans h)
  have hgg : Hid (∀ (k : Nat) (hk : k < l.length) (h : k < (bs l).size), (bs l)[k]'h = l[k]'hk) := fun k hk h => bs_get l k h
  have cW : Hid (∀ (k : Nat) (c : UInt8) (r : List UInt8) (W : World), l.drop k = c :: r → Calls Tryz.prog 84 #[.string (bs l), .int .i64 (k : Nat)] W (RWordPost l W (wordL (c :: r)))) := fun k c r W hd => rword_any l k c r W hd hl
  replace hR := Lib.hid hR
  generalize bs l = S at *
  go_enter Tryz.func17, Tryz.ntmps17
  go_wp2
  go_loopw [5, 6, 7] (fun v n i wr => ∃ (j ln : Nat) (acc : List Wd), j ≤ l.length ∧ ln ≤ j ∧ acc.length ≤ j ∧ i = .int .i64 (j : Nat) ∧ n = .int .i64 (ln : Nat) ∧ wr.ownsRow w.heap.size 86 4 v acc.length (wcells acc) ∧ R = goF (l.drop j) ln acc ∧ Below w.heap.size w wr) (fun _ _ i _ => l.length - (intOf i).toNat)
  case atStart => exact ⟨0, 0, [], Nat.zero_le _, Nat.le_refl _, by simp, rfl, rfl, World.ownsRow_nil _ _ _ _, hR.out, Below.refl _ _⟩
  case round =>
    obtain ⟨j, ln, acc, hj, hlj, haj, rfl, rfl, ho, hx, hb⟩ := hrel
    by_cases hlt : j < l.length
    · have hg : ∀ h, S[j]'h = l[j] := fun h => hgg.out j hlt h
      have hdr := List.drop_eq_getElem_cons hlt
      have hrem := goF_rem l j hlt
      obtain ⟨c, hc⟩ : ∃ c, c = l[j]'hlt := ⟨_, rfl⟩
      rw [← hc] at hdr hrem
      rw [← hc] at hg
      by_cases c10 : c = 10
      · subst c10
        have hx2 : Hid (R = goF (l.drop (j + 1)) (ln + 1) acc) := by
          show _ = _; rw [hx, hdr]; exact goF_eq _ _ _ _ _ (by rw [skipL, if_pos rfl])
        replace ho := Lib.hid ho
        replace hb := Lib.hid hb
        clear hx hrem hdr hc
        go_wp2
        go_roundw
        case rel => exact ⟨j + 1, ln + 1, acc, by omega, by omega, by omega, by go_num, by go_num, ho.out, hx2.out, hb.out⟩
        case measure => simp [intOf]; omega
      · have t10 : ((c.toNat : Int) == 10) = false := u8_ne c10 10 rfl
        by_cases c32 : c = 32 ∨ c = 9
        · have hx2 : Hid (R = goF (l.drop (j + 1)) ln acc) := by
            show _ = _; rw [hx, hdr]; exact goF_eq _ _ _ _ _ (by rw [skipL, if_neg c10, if_pos c32])
          replace ho := Lib.hid ho
          replace hb := Lib.hid hb
          clear hx hrem hdr hc c10
          rcases c32 with rfl | rfl
          · go_wp2
            go_roundw
            case rel => exact ⟨j + 1, ln, acc, by omega, by omega, by omega, by go_num, rfl, ho.out, hx2.out, hb.out⟩
            case measure => simp [intOf]; omega
          · go_wp2
            go_roundw
            case rel => exact ⟨j + 1, ln, acc, by omega, by omega, by omega, by go_num, rfl, ho.out, hx2.out, hb.out⟩
            case measure => simp [intOf]; omega
        · have t32 : ((c.toNat : Int) == 32) = false := u8_ne (fun e => c32 (.inl e)) 32 rfl
          have t9 : ((c.toNat : Int) == 9) = false := u8_ne (fun e => c32 (.inr e)) 9 rfl
          by_cases c59 : c = 59
          · subst c59
            have hrem2 := Lib.hid (hrem rfl ln acc)
            replace ho := Lib.hid ho
            replace hb := Lib.hid hb
            replace hx := Lib.hid hx
            replace hdr := Lib.hid hdr
            replace hc := Lib.hid hc
            clear hrem
            obtain ⟨wo, rfl⟩ : ∃ wo : World, wo = wr := ⟨_, rfl⟩
            go_wp2
            go_loop [7] (fun i => ∃ m : Nat, j ≤ m ∧ m ≤ l.length ∧ i = .int .i64 (m : Nat) ∧ (l.drop m).dropWhile (· != 10) = (l.drop j).dropWhile (· != 10)) (fun i => l.length - (intOf i).toNat)
            case atStart => exact ⟨j, Nat.le_refl _, hj, rfl, rfl⟩
            case round =>
              obtain ⟨m, hjm, hm, rfl, hdw⟩ := hrel
              clear hg
              by_cases hltm : m < l.length
              · have hgm : ∀ h, S[m]'h = l[m] := fun h => hgg.out m hltm h
                by_cases m10 : l[m]'hltm = 10
                · have hne : m ≠ j := by
                    rintro rfl
                    have := hc.out
                    rw [m10] at this
                    exact absurd this (by decide)
                  have hx2 : Hid (R = goF (l.drop m) ln acc) := by
                    show _ = _; rw [hx.out, hrem2.out, ← hdw, dw10_stop l m hltm m10]
                  rw [m10] at hgm
                  clear hdw m10
                  go_wp2
                  go_roundw
                  case rel => exact ⟨m, ln, acc, hm, by omega, by omega, rfl, rfl, ho.out, hx2.out, hb.out⟩
                  case measure => simp [intOf]; omega
                · have hdw2 := Lib.hid ((dw10 l m hltm m10).symm.trans hdw)
                  have tm : (((l[m]'hltm).toNat : Int) == 10) = false := u8_ne m10 10 rfl
                  generalize l[m]'hltm = cm at *
                  clear hdw m10
                  go_wp2
                  go_round
                  case rel => exact ⟨m + 1, by omega, by omega, by go_num, hdw2.out⟩
                  case measure => simp [intOf]; omega
              · obtain rfl : m = l.length := by omega
                have hx2 : Hid (R = goF (l.drop l.length) ln acc) := by
                  show _ = _; rw [hx.out, hrem2.out, ← hdw, List.drop_length]; rfl
                clear hdw
                go_wp2
                go_roundw
                case rel => exact ⟨l.length, ln, acc, Nat.le_refl _, by omega, by omega, rfl, rfl, ho.out, hx2.out, hb.out⟩
                case measure => simp [intOf]; omega
          · have t59 : ((c.toNat : Int) == 59) = false := u8_ne c59 59 rfl
            have hword := goF_word c (l.drop (j + 1)) ln acc c10 c32 c59
            rw [hdr, hword] at hx
            have cW1 := cW.out j c _ wr hdr
            replace ho := Lib.hid ho
            clear hrem hword
            replace hdr := Lib.hid hdr
            replace hc := Lib.hid hc
            replace c10 := Lib.hid c10
            replace c32 := Lib.hid c32
            replace c59 := Lib.hid c59
            replace hb := Lib.hid hb
            go_wp2_with (go_at_call 84; refine cW1.mono ?_)
            rintro e W1 ⟨hb1, hp⟩
            have ho1 := Lib.hid (ho.out.kept (Below_grown0 hb1) (Classical.em _))
            have hb2 := Lib.hid (hb.out.trans (hb1.mono hb.out.size))
            cases hwd : wordL (c :: l.drop (j + 1)) with
            | none =>
              rw [hwd] at hp hx
              obtain ⟨k, s, n, m, rfl⟩ := hp
              have hfin : Hid (∀ W2, Below w.heap.size W1 W2 → WordsPost w (wordsL l) (.returned (.tuple #[.slice none 0 0, .int .i64 ln, .int .i64 4])) W2) := fun W2 h2 => by
                refine ⟨hb2.out.trans h2, ?_⟩
                rw [hWe.out ln hx]; rfl
              have hz1 := hb2.out.size
              replace hx := Lib.hid hx
              replace hwd := Lib.hid hwd
              clear hb1 cW1
              go_wp2
              go_ret3
              exact hfin.out _ ((Below.refl _ W1).alloc hz1 _)
            | some x =>
              obtain ⟨k, s, n, m⟩ := x
              rw [hwd] at hp hx
              subst hp
              have hlm := wordL_lt _ hwd
              have hsuf : l.drop (l.length - m.length) = m := suf_drop ((wordL_suf _ hwd).trans (by rw [← hdr.out]; exact List.drop_suffix j l))
              have hlm2 : m.length + j + 1 ≤ l.length := by
                have := congrArg List.length hdr.out
                rw [List.length_drop] at this
                omega
              replace hwd := Lib.hid hwd
              replace hx := Lib.hid hx
              replace hsuf := Lib.hid hsuf
              obtain ⟨j2, hj2⟩ : ∃ j2, j2 = l.length - m.length := ⟨_, rfl⟩
              rw [← hj2] at hsuf
              rw [← hj2]
              have hown2 := (ho1.out.alloc (.cells #[.int .u8 (k : Nat), .string (bs s), .int .i64 n, .int .i64 (ln : Nat)] 86)).alloc (.cells #[.int .u8 (k : Nat), .string (bs s), .int .i64 n, .int .i64 (ln : Nat)] 86)
              have hb3 := (hb2.out.alloc hb2.out.size (.cells #[.int .u8 (k : Nat), .string (bs s), .int .i64 n, .int .i64 (ln : Nat)] 86)).alloc (by have := hb2.out.size; simp; omega) (.cells #[.int .u8 (k : Nat), .string (bs s), .int .i64 n, .int .i64 (ln : Nat)] 86)
              have hzz := hb2.out.size
              replace hb3 := Lib.hid hb3
              clear hb1 cW1 hlm
              go_wp2_with (at_builtin; refine wpList_append_own _ rfl _ _ 49 rfl w.heap.size 86 i0 _ 4 40 Tryz.underlying49 hi hz0 hz1 hz2 rfl (by decide) _ _ _ rfl hown2 ⟨W1.heap.size + 1, 0, none⟩ 1 1 (wcell (k, s, n, ln)) rfl rfl ?c1 ?c2 ?c3 ?c4 ?c5 ?_)
              case c1 =>
                intro j u hj
                match j, hj with
                | 0, hj => simp [wcell] at hj; subst hj; simp [Addr.add]
                | 1, hj => simp [wcell] at hj; subst hj; simp [Addr.add]
                | 2, hj => simp [wcell] at hj; subst hj; simp [Addr.add]
                | 3, hj => simp [wcell] at hj; subst hj; simp [Addr.add]
                | j + 4, hj => simp [wcell] at hj
              case c2 => intro u hu; simp [wcell] at hu; rcases hu with rfl | rfl | rfl | rfl <;> rfl
              case c3 => unfold maxLen; omega
              case c4 => omega
              case c5 => simp; omega
              intro v' w2 hown' hgrow _
              rw [← wcells_snoc] at hown'
              have hb4 := Lib.hid (hb3.out.grown hgrow (by simp; omega) (fun k hk => (hown2.lt k hk).1))
              replace hown' := Lib.hid hown'
              clear hgrow hown2
              go_wp2
              go_roundw
              case rel => exact ⟨j2, ln, acc ++ [(k, s, n, ln)], by omega, by omega, by simp; omega, by rw [hj2], rfl, by simpa using hown'.out, by rw [hsuf.out]; exact hx.out, hb4.out⟩
              case measure => simp [intOf]; omega
    · obtain rfl : j = l.length := by omega
      rw [List.drop_length, goF_nil] at hx
      have hfin : Hid (WordsPost w (wordsL l) (.returned (.tuple #[u5, .int .i64 0, .int .i64 0])) wr) := by
        refine ⟨hb, ?_⟩
        rw [hWo.out acc hx]
        exact ⟨u5, rfl, ho⟩
      replace hx := Lib.hid hx
      clear ho hb
      go_wp2
      go_ret3
      exact hfin.out

set_option maxHeartbeats 1000000 in
set_option maxRecDepth 100000 in
theorem rwords_over (l : List UInt8) (w : World) (hl : 65536 < l.length) (hm : l.length ≤ 9223372036854775807) :
    Calls Tryz.prog 17 #[.string (bs l)] w (WordsPost w (wordsL l)) := by
  have hsz := bs_size l
  have hfin : Hid (WordsPost w (wordsL l) (.returned (.tuple #[.slice none 0 0, .int .i64 0, .int .i64 3])) w) := by
    refine ⟨Below.refl _ _, ?_⟩
    unfold wordsL
    rw [if_pos hl]
    rfl
  go_enter Tryz.func17, Tryz.ntmps17
  go_wp2
  go_ret3
  exact hfin.out
theorem rwords_all (l : List UInt8) (w : World) (hm : l.length ≤ 9223372036854775807) :
    Calls Tryz.prog 17 #[.string (bs l)] w (WordsPost w (wordsL l)) := by
  by_cases hl : l.length ≤ 65536
  · exact rwords_any l w hl
  · exact rwords_over l w (by omega) hm
end Go.Proofs.YtimdkdengdhglaaGreatDoor
