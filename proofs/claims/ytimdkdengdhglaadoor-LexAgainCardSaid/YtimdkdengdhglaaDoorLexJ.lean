/- The walk of LexJoins. -/
import Derived.Test.YtimdkdengdhglaaDoorLexQ
import Derived.Test.YtimdkdengdhglaaDoorLexI
import Derived.Laws.AppendOwnNone
import Derived.Laws.OwnMore
namespace Go.Proofs.YtimdkdengdhglaaDoor
open Go Go.RowKit

theorem bs_append (a b : List UInt8) : bs a ++ bs b = bs (a ++ b) := by apply ba_ext; simp [bs]
theorem wordsL_err (l : List UInt8) (hl : l.length ≤ 65536) {n er : Nat} (h : wordsL l = .error (n, er)) : er = 4 := by
  unfold wordsL at h
  rw [if_neg (by omega)] at h
  split at h
  · simp at h
  · simp at h; exact h.2.symm
theorem Env.kept {w w' : World} (h : Env w) (hb : Below w.heap.size w w') : Env w' := h.below hb h.size

theorem World.Below.grown0 {w w' : World} (h : Below w.heap.size w w') : w.grownBy w' none := ⟨h.os, h.tape, h.output, h.size, fun k hk _ => h.block k hk⟩
theorem own_shape {w : World} {base : Nat} {e : TypeId} {size : Nat} {v : Value} {n : Nat} {xs : List Value} (h : w.ownsRow base e size v n xs) : ∃ ao cap, v = .slice ao n cap := by
  rcases h.2 with ⟨rfl, rfl⟩ | ⟨g, cap, cur, rfl, _⟩
  · exact ⟨none, 0, rfl⟩
  · exact ⟨_, cap, rfl⟩
theorem cnt_take (a : List UInt8) (k : Nat) (h : k < a.length) : cnt (a.take (k + 1)) = cnt (a.take k) + if a[k] = 10 then 1 else 0 := by
  rw [List.take_succ_eq_append_getElem h, cnt_append, cnt_cons]; simp [cnt]
theorem hcat_eq (a b : List UInt8) : bs a ++ ⟨#[10]⟩ ++ bs b = bs (a ++ 10 :: b) := by
  have : (⟨#[10]⟩ : ByteArray) = bs [10] := rfl
  rw [this, bs_append, bs_append]; simp

set_option maxHeartbeats 1000000 in
set_option maxRecDepth 100000 in
theorem joins_over (a b : List UInt8) (w : World) (hE : Env w) (h : 65535 < a.length + b.length) (ha : a.length ≤ 140737488355328) (hb : b.length ≤ 140737488355328) :
    Calls Tryd.prog 5 #[.string (bs a), .string (bs b)] w fun e w' => e = .returned (.bool true) ∧ Below w.heap.size w w' := by
  have ha' := bs_size a
  have hb' := bs_size b
  have cA := alive_any w hE
  have hE0 := Lib.hid hE
  clear hE
  go_enter Tryd.func5, Tryd.ntmps5
  go_wp2_with (go_at_call 7; refine cA.mono ?_)
  rintro e W1 ⟨rfl, hb1⟩
  have cA2 := alive_any W1 (hE0.out.kept hb1)
  clear cA
  go_wp2_with (go_at_call 7; refine cA2.mono ?_)
  rintro e W2 ⟨rfl, hb2⟩
  go_wp2
  go_ret
  exact ⟨rfl, hb1.trans (hb2.mono hb1.size)⟩

theorem wordsGo_len : ∀ (f : Nat) (l : List UInt8) (ln : Nat) (acc ws : List Wd), wordsGo f l ln acc = .ok ws → ws.length ≤ acc.length + l.length
  | 0, l, ln, acc, ws, h => by simp [wordsGo] at h; subst h; omega
  | f + 1, l, ln, acc, ws, h => by
    cases l with
    | nil => simp [wordsGo] at h; subst h; omega
    | cons c r =>
      unfold wordsGo at h
      cases hx : wordL (c :: r) with
      | none => simp [hx] at h
      | some x =>
        obtain ⟨k, s, n, m⟩ := x
        simp only [hx] at h
        have h1 := wordL_lt (c :: r) hx
        have h2 := skipL_le m ln
        have := wordsGo_len f _ _ _ _ h
        simp at this h1 ⊢; omega
theorem wordsL_len (l : List UInt8) (ws : List Wd) (h : wordsL l = .ok ws) : ws.length ≤ l.length := by
  unfold wordsL at h
  split at h
  · simp at h
  · split at h
    · rename_i hg; simp at h; subst h
      have := wordsGo_len _ _ _ _ _ hg
      have := skipL_le l 0
      simp at *; omega
    · simp at h
theorem wordsGo_errline : ∀ (f : Nat) (l : List UInt8) (ln : Nat) (acc : List Wd) (n : Nat), wordsGo f l ln acc = .error n → n ≤ ln + l.length
  | 0, l, ln, acc, n, h => by simp [wordsGo] at h
  | f + 1, l, ln, acc, n', h => by
    cases l with
    | nil => simp [wordsGo] at h
    | cons c r =>
      unfold wordsGo at h
      cases hx : wordL (c :: r) with
      | none => simp [hx] at h; omega
      | some x =>
        obtain ⟨k, s, n, m⟩ := x
        simp only [hx] at h
        have h1 := wordL_lt (c :: r) hx
        have h2 := skipL_sum m ln
        have := wordsGo_errline f _ _ _ _ h
        simp at this h1 ⊢; omega
theorem wordsL_errline (l : List UInt8) (n er : Nat) (h : wordsL l = .error (n, er)) : n ≤ l.length := by
  unfold wordsL at h
  split at h
  · simp at h; omega
  · split at h
    · simp at h
    · rename_i hg; simp at h; obtain ⟨rfl, _⟩ := h
      have := wordsGo_errline _ _ _ _ _ hg
      have := skipL_sum l 0
      omega
theorem wordsGo_lines : ∀ (f : Nat) (l : List UInt8) (ln : Nat) (acc ws : List Wd), wordsGo f l ln acc = .ok ws → ∀ x ∈ ws, x ∈ acc ∨ x.2.2.2 ≤ ln + l.length
  | 0, l, ln, acc, ws, h => by simp [wordsGo] at h; subst h; exact fun x hx => .inl hx
  | f + 1, l, ln, acc, ws, h => by
    cases l with
    | nil => simp [wordsGo] at h; subst h; exact fun x hx => .inl hx
    | cons c r =>
      unfold wordsGo at h
      cases hx : wordL (c :: r) with
      | none => simp [hx] at h
      | some x =>
        obtain ⟨k, s, n, m⟩ := x
        simp only [hx] at h
        have h1 := wordL_lt (c :: r) hx
        have h2 := skipL_sum m ln
        intro y hy
        rcases wordsGo_lines f _ _ _ _ h y hy with h3 | h3
        · rcases List.mem_append.1 h3 with h4 | h4
          · exact .inl h4
          · simp at h4; subst h4; exact .inr (by simp)
        · refine .inr ?_; simp at h1 ⊢; omega
theorem wordsL_lines (l : List UInt8) (ws : List Wd) (h : wordsL l = .ok ws) (hl : l.length ≤ 65536) : ∀ x ∈ ws, x.2.2.2 ≤ 65536 := by
  unfold wordsL at h
  rw [if_neg (by omega)] at h
  split at h
  · rename_i hg; simp at h; subst h
    intro x hx
    rcases wordsGo_lines _ _ _ _ _ hg x hx with h1 | h1
    · simp at h1
    · have := skipL_sum l 0; omega
  · simp at h
theorem wcells_app (a b : List Wd) : wcells (a ++ b) = wcells a ++ wcells b := by simp [wcells]
theorem wcells_set (pre post : List Wd) (x : Wd) (d : Nat) :
    (wcells (pre ++ x :: post)).set (pre.length * 4 + 3) (.int .i64 ((x.2.2.2 : Int) + d)) = wcells ((pre ++ [shiftW d x]) ++ post) := by
  have e : wcells (x :: post) = wcell x ++ wcells post := by simp [wcells]
  rw [wcells_app, List.set_append, if_neg (by rw [wcells_len]; omega), wcells_len, e, List.append_assoc, wcells_app, List.singleton_append]
  have e2 : wcells (shiftW d x :: post) = wcell (shiftW d x) ++ wcells post := by simp [wcells]
  rw [e2, show pre.length * 4 + 3 - pre.length * 4 = 3 by omega]
  simp [wcell, shiftW]

set_option maxHeartbeats 4000000 in
set_option maxRecDepth 100000 in
theorem joins_main (a b : List UInt8) (w : World) (hE : Env w) (h : a.length + b.length ≤ 65535) :
    Calls Tryd.prog 5 #[.string (bs a), .string (bs b)] w fun e w' => e = .returned (.bool true) ∧ Below w.heap.size w w' := by
  have ha' := bs_size a
  have hb' := bs_size b
  have cA := alive_any w hE
  have hE0 := Lib.hid hE
  clear hE
  have hJ := Lib.hid (words_join a b h)
  obtain ⟨i0, hi, hz0, hz1, hz2'⟩ := info_parts infoWord
  go_enter Tryd.func5, Tryd.ntmps5
  go_wp2_with (go_at_call 7; refine cA.mono ?_)
  rintro e W1 ⟨rfl, hb1⟩
  have hE1 := Lib.hid (hE0.out.kept hb1)
  have cW1 := words_all a W1 (by omega) hE1.out
  clear cA hE0
  go_wp2_with (go_at_call 6; refine cW1.mono ?_)
  rintro e W2 ⟨hb2, h1⟩
  have hE2 := Lib.hid (hE1.out.kept hb2)
  have cW2 := words_all b W2 (by omega) hE2.out
  have hb12 := hb1.trans (hb2.mono hb1.size)
  have hb1' := hb1
  clear cW1 hE1 hb1
  cases hA : wordsL a with
  | error x =>
    obtain ⟨n, er⟩ := x
    obtain rfl := wordsL_err a (by omega) hA
    rw [hA] at h1
    subst h1
    have hJ' : Hid (wordsL (a ++ 10 :: b) = .error (n, 4)) := by show _ = _; rw [hJ.out, hA]
    replace hA := Lib.hid hA
    clear hb2 hJ
    go_wp2_with (go_at_call 6; refine cW2.mono ?_)
    rintro e W3 ⟨hb3, h2⟩
    have h2' : ∃ v n er, e = .returned (.tuple #[v, .int .i64 (n : Nat), .int .i64 (er : Nat)]) := by
      cases hB : wordsL b with
      | error x => rw [hB] at h2; exact ⟨_, _, _, h2⟩
      | ok ws => rw [hB] at h2; obtain ⟨v, hv, _⟩ := h2; exact ⟨v, 0, 0, hv⟩
    obtain ⟨v2, n2, er2, rfl⟩ := h2'
    have hE3 := Lib.hid (hE2.out.kept hb3)
    have cW3 : Calls Tryd.prog 6 #[.string (bs a ++ ⟨#[10]⟩ ++ bs b)] W3 (WordsPost W3 (wordsL (a ++ 10 :: b))) := by
      rw [hcat_eq]; exact words_all (a ++ 10 :: b) W3 (by simp; omega) hE3.out
    rw [hJ'.out] at cW3
    have hb123 := hb12.trans (hb3.mono hb12.size)
    clear cW2 h2 hb3 hb12 hE2 hJ'
    go_wp2_with (go_at_call 6; refine cW3.mono ?_)
    rintro e W4 ⟨hb4, rfl⟩
    have hbf := Lib.hid (hb123.trans (hb4.mono hb123.size))
    clear cW3 hb4 hb123 hE3
    have hcl := cnt_le a
    go_wp2_with fail
    go_loop [14, 15] (fun n i => ∃ k : Nat, k ≤ a.length ∧ i = .int .i64 k ∧ n = .int .i64 ((1 + cnt (a.take k) : Nat) : Int)) (fun _ i => a.length - (intOf i).toNat)
    case atStart => exact ⟨0, Nat.zero_le _, rfl, by simp [cnt]⟩
    case round =>
      obtain ⟨k, hk, rfl, rfl⟩ := hrel
      have hck := cnt_le (a.take k)
      have hll := List.length_take_le k a
      by_cases hlt : k < a.length
      · have hg : ∀ h, (bs a)[k]'h = a[k] := fun h => bs_get a k h
        have hs := Lib.hid (cnt_take a k hlt)
        generalize cnt (a.take k) = q at *
        by_cases hc : a[k] = 10
        · have t1 : ((a[k].toNat : Int) == 10) = true := by rw [hc]; rfl
          have hs' : Hid (cnt (a.take (k + 1)) = q + 1) := by show _ = _; rw [hs.out, if_pos hc]
          clear hs hc
          go_wp2
          go_round
          case rel => exact ⟨k + 1, by omega, by go_num, by rw [hs'.out]; simp; omega⟩
          case measure => simp [intOf]; omega
        · have t1 : ((a[k].toNat : Int) == 10) = false := by
            rw [beq_eq_false_iff_ne]; intro h; apply hc; apply UInt8.toNat_inj.1; simp; omega
          have hs' : Hid (cnt (a.take (k + 1)) = q) := by show _ = _; rw [hs.out, if_neg hc]; omega
          clear hs hc
          go_wp2
          go_round
          case rel => exact ⟨k + 1, by omega, by go_num, by rw [hs'.out]⟩
          case measure => simp [intOf]; omega
      · obtain rfl : k = a.length := by omega
        rw [List.take_length]
        go_wp2
        go_ret
        exact ⟨rfl, hbf.out⟩
  | ok l =>
    rw [hA] at h1
    obtain ⟨v1, rfl, ho1⟩ := h1
    obtain ⟨a1, cp1, rfl⟩ := own_shape ho1
    have hl1 := wordsL_len a l hA
    have hu1 : Hid (∀ k, (Value.slice a1 l.length cp1).ownBlock = some k → k < W2.heap.size) := fun k hk => (ho1.lt k hk).2
    have hz2 := hb2.size
    replace ho1 := Lib.hid ho1
    cases hB : wordsL b with
    | error x =>
      obtain ⟨n, er⟩ := x
      obtain rfl := wordsL_err b (by omega) hB
      have hnb := wordsL_errline b _ _ hB
      have hJ' : Hid (wordsL (a ++ 10 :: b) = .error (n + (cnt a + 1), 4)) := by show _ = _; rw [hJ.out, hA, hB]
      rw [hB] at cW2
      replace hA := Lib.hid hA
      replace hB := Lib.hid hB
      clear hb2 hJ
      go_wp2_with (go_at_call 6; refine cW2.mono ?_)
      rintro e W3 ⟨hb3, rfl⟩
      have hE3 := Lib.hid (hE2.out.kept hb3)
      have cW3 : Calls Tryd.prog 6 #[.string (bs a ++ ⟨#[10]⟩ ++ bs b)] W3 (WordsPost W3 (wordsL (a ++ 10 :: b))) := by
        rw [hcat_eq]; exact words_all (a ++ 10 :: b) W3 (by simp; omega) hE3.out
      rw [hJ'.out] at cW3
      have hb123 := hb12.trans (hb3.mono hb12.size)
      clear cW2 hb3 hb12 hE2 hJ'
      go_wp2_with (go_at_call 6; refine cW3.mono ?_)
      rintro e W4 ⟨hb4, rfl⟩
      have hbf := Lib.hid (hb123.trans (hb4.mono hb123.size))
      clear cW3 hb4 hb123 hE3
      have hcl := cnt_le a
      go_wp2_with fail
      go_loop [14, 15] (fun n i => ∃ k : Nat, k ≤ a.length ∧ i = .int .i64 k ∧ n = .int .i64 ((1 + cnt (a.take k) : Nat) : Int)) (fun _ i => a.length - (intOf i).toNat)
      case atStart => exact ⟨0, Nat.zero_le _, rfl, by simp [cnt]⟩
      case round =>
        obtain ⟨k, hk, rfl, rfl⟩ := hrel
        have hck := cnt_le (a.take k)
        have hll := List.length_take_le k a
        by_cases hlt : k < a.length
        · have hg : ∀ h, (bs a)[k]'h = a[k] := fun h => bs_get a k h
          have hs := Lib.hid (cnt_take a k hlt)
          generalize cnt (a.take k) = q at *
          by_cases hc : a[k] = 10
          · have t1 : ((a[k].toNat : Int) == 10) = true := by rw [hc]; rfl
            have hs' : Hid (cnt (a.take (k + 1)) = q + 1) := by show _ = _; rw [hs.out, if_pos hc]
            clear hs hc
            go_wp2
            go_round
            case rel => exact ⟨k + 1, by omega, by go_num, by rw [hs'.out]; simp; omega⟩
            case measure => simp [intOf]; omega
          · have t1 : ((a[k].toNat : Int) == 10) = false := by
              rw [beq_eq_false_iff_ne]; intro h; apply hc; apply UInt8.toNat_inj.1; simp; omega
            have hs' : Hid (cnt (a.take (k + 1)) = q) := by show _ = _; rw [hs.out, if_neg hc]; omega
            clear hs hc
            go_wp2
            go_round
            case rel => exact ⟨k + 1, by omega, by go_num, by rw [hs'.out]⟩
            case measure => simp [intOf]; omega
        · obtain rfl : k = a.length := by omega
          rw [List.take_length]
          have ht : ((n : Int) + ((cnt a : Int) + 1) == (n : Int) + (1 + (cnt a : Int))) = true := by rw [beq_iff_eq]; omega
          go_wp2
          go_ret
          exact ⟨rfl, hbf.out⟩
    | ok m =>
      rw [hB] at cW2
      have hl2 := wordsL_len b m hB
      have hJ' : Hid (wordsL (a ++ 10 :: b) = .ok (l ++ m.map (shiftW (cnt a + 1)))) := by show _ = _; rw [hJ.out, hA, hB]
      replace hA := Lib.hid hA
      replace hB := Lib.hid hB
      clear hb2 hJ
      go_wp2_with (go_at_call 6; refine cW2.mono ?_)
      rintro e W3 ⟨hb3, v2, rfl, ho2⟩
      obtain ⟨a2, cp2, rfl⟩ := own_shape ho2
      have hE3 := Lib.hid (hE2.out.kept hb3)
      have cW3 : Calls Tryd.prog 6 #[.string (bs a ++ ⟨#[10]⟩ ++ bs b)] W3 (WordsPost W3 (wordsL (a ++ 10 :: b))) := by
        rw [hcat_eq]; exact words_all (a ++ 10 :: b) W3 (by simp; omega) hE3.out
      rw [hJ'.out] at cW3
      have hu2 : Hid (∀ k, (Value.slice a2 m.length cp2).ownBlock = some k → W2.heap.size ≤ k ∧ k < W3.heap.size) := fun k hk => ho2.lt k hk
      have ho1' := Lib.hid (ho1.out.kept (World.Below.grown0 hb3) (by rcases hq : (Value.slice a1 l.length cp1).ownBlock <;> simp))
      have hb123 := hb12.trans (hb3.mono hb12.size)
      replace ho2 := Lib.hid ho2
      clear cW2 hb12 hE2 hJ' ho1
      go_wp2_with (go_at_call 6; refine cW3.mono ?_)
      rintro e W4 ⟨hb4, v3, rfl, ho3⟩
      rw [show (l ++ m.map (shiftW (cnt a + 1))).length = l.length + m.length by simp] at ho3
      obtain ⟨a3, cp3, rfl⟩ := own_shape ho3
      have hu3 : Hid (∀ k, (Value.slice a3 (l.length + m.length) cp3).ownBlock = some k → W3.heap.size ≤ k) := fun k hk => (ho3.lt k hk).1
      have hbf := Lib.hid (hb123.trans (hb4.mono hb123.size))
      have ho1'' := Lib.hid (ho1'.out.kept (World.Below.grown0 hb4) (by rcases hq : (Value.slice a1 l.length cp1).ownBlock <;> simp))
      have ho2' := Lib.hid (ho2.out.kept (World.Below.grown0 hb4) (by rcases hq : (Value.slice a2 m.length cp2).ownBlock <;> simp))
      replace ho3 := Lib.hid ho3
      have hz12 : W1.heap.size ≤ W2.heap.size := hz2
      have hzw : w.heap.size ≤ W1.heap.size := hb1'.size
      have hz23 := hb3.size
      have hz34 := hb4.size
      clear cW3 hb4 hb123 hE3 hb3 ho1' ho2
      have hcl := cnt_le a
      go_wp2_with fail
      go_loop [14, 15] (fun n i => ∃ k : Nat, k ≤ a.length ∧ i = .int .i64 k ∧ n = .int .i64 ((1 + cnt (a.take k) : Nat) : Int)) (fun _ i => a.length - (intOf i).toNat)
      case atStart => exact ⟨0, Nat.zero_le _, rfl, by simp [cnt]⟩
      case round =>
        obtain ⟨k, hk, rfl, rfl⟩ := hrel
        have hck := cnt_le (a.take k)
        have hll := List.length_take_le k a
        by_cases hlt : k < a.length
        · have hg : ∀ h, (bs a)[k]'h = a[k] := fun h => bs_get a k h
          have hs := Lib.hid (cnt_take a k hlt)
          generalize cnt (a.take k) = q at *
          by_cases hc : a[k] = 10
          · have t1 : ((a[k].toNat : Int) == 10) = true := by rw [hc]; rfl
            have hs' : Hid (cnt (a.take (k + 1)) = q + 1) := by show _ = _; rw [hs.out, if_pos hc]
            clear hs hc
            go_wp2
            go_round
            case rel => exact ⟨k + 1, by omega, by go_num, by rw [hs'.out]; simp; omega⟩
            case measure => simp [intOf]; omega
          · have t1 : ((a[k].toNat : Int) == 10) = false := by
              rw [beq_eq_false_iff_ne]; intro h; apply hc; apply UInt8.toNat_inj.1; simp; omega
            have hs' : Hid (cnt (a.take (k + 1)) = q) := by show _ = _; rw [hs.out, if_neg hc]; omega
            clear hs hc
            go_wp2
            go_round
            case rel => exact ⟨k + 1, by omega, by go_num, by rw [hs'.out]⟩
            case measure => simp [intOf]; omega
        · obtain rfl : k = a.length := by omega
          rw [List.take_length]
          rcases ho2'.out.2 with ⟨hv, h0⟩ | ⟨g2, cap2, cur2, hv, hg2b, hg2, _⟩
          · -- the second text has no words, and its list is nil
            obtain ⟨rfl, rfl⟩ : a2 = none ∧ cp2 = 0 := by simp at hv; exact ⟨hv.1, hv.2.2⟩
            obtain rfl : m = [] := List.eq_nil_of_length_eq_zero h0
            have cS := sameWords_eq _ _ _ W4 (ReadsW.own ho3.out (by simp)) (show ReadsW W4 (.slice a1 l.length cp1) (l ++ [].map (shiftW (cnt a + 1))) by simpa using ReadsW.own ho1''.out rfl)
            clear ho2' hv h0 hu2
            go_wp2
            go_loopw [16] (fun i wr => i = .int .i64 0 ∧ wr = W4) (fun _ _ => 0)
            case atStart => exact ⟨rfl, rfl⟩
            case round =>
              obtain ⟨rfl, rfl⟩ := hrel
              go_wp2_with (first | (at_builtin; refine wpList_append_own_none rfl _ _ 22 rfl W1.heap.size 30 i0 4 Tryd.underlying22 hi _ _ _ rfl ho1''.out rfl ?_) | (go_at_call 11; refine cS.mono ?_))
              rintro e W5 ⟨rfl, hb5⟩
              have hbf2 := Lib.hid (hbf.out.trans (hb5.mono hbf.out.size))
              clear cS hb5
              go_wp2
              go_ret
              exact ⟨rfl, hbf2.out⟩
          · -- each line of the second list is moved
            obtain ⟨rfl, rfl⟩ : a2 = some ⟨g2, 0, none⟩ ∧ cp2 = cap2 := by simp at hv; exact ⟨hv.1, hv.2⟩
            have hg2lt := hu2.out g2 rfl
            have hr3 := Lib.hid (ReadsW.own ho3.out (ws := l ++ m.map (shiftW (cnt a + 1))) (by simp))
            have h13 : Hid (∀ k, (Value.slice a3 (l.length + m.length) cp3).ownBlock = some k → k ≠ g2 ∧ ∀ j, (Value.slice a1 l.length cp1).ownBlock = some j → k ≠ j) := fun k hk => by
              have := hu3.out k hk
              exact ⟨by omega, fun j hj => by have := hu1.out j hj; omega⟩
            have h12 : Hid (∀ j, (Value.slice a1 l.length cp1).ownBlock = some j → j ≠ g2) := fun j hj => by have := hu1.out j hj; omega
            have hz4 : w.heap.size ≤ W4.heap.size := hbf.out.size
            have hg2w : w.heap.size ≤ g2 := by omega
            have hD : Hid ((1 : Int) + (cnt a : Int) = ((cnt a + 1 : Nat) : Int)) := by show _ = _; omega
            have hcq : cnt a + 1 ≤ 65537 := by omega
            clear hv hg2 hg2b hg2lt hu1 hu2 hu3 ho3
            have hLm : Hid (∀ x ∈ m, x.2.2.2 ≤ 65536) := wordsL_lines b m hB.out (by omega)
            have hzz := hbf
            go_wp2
            go_loopw [16] (fun i wr => ∃ k : Nat, k ≤ m.length ∧ i = .int .i64 k ∧ wr.ownsRow W2.heap.size 30 4 (.slice (some ⟨g2, 0, none⟩) m.length cp2) m.length (wcells ((m.take k).map (shiftW (cnt a + 1)) ++ m.drop k)) ∧
              wr.ownsRow W1.heap.size 30 4 (.slice a1 l.length cp1) l.length (wcells l) ∧ ReadsW wr (.slice a3 (l ++ m.map (shiftW (cnt a + 1))).length cp3) (l ++ m.map (shiftW (cnt a + 1))) ∧ Below w.heap.size w wr ∧ W2.heap.size ≤ wr.heap.size) (fun i _ => m.length - (intOf i).toNat)
            case atStart => exact ⟨0, Nat.zero_le _, rfl, by simpa using ho2'.out, ho1''.out, by simpa using hr3.out, hbf.out, by omega⟩
            case round =>
              obtain ⟨k, hk, rfl, ho2, ho1, hr, hb, hzk⟩ := hrel
              clear ho2' ho1'' hr3
              by_cases hlt : k < m.length
              · obtain ⟨x, hx⟩ : ∃ x, x = m[k] := ⟨_, rfl⟩
                have hdr : m.drop k = x :: m.drop (k + 1) := by rw [hx]; exact List.drop_eq_getElem_cons hlt
                have hpl : ((m.take k).map (shiftW (cnt a + 1))).length = k := by simp; omega
                have hxl : x.2.2.2 ≤ 65536 := hLm.out x (by rw [hx]; exact List.getElem_mem hlt)
                have htk : (m.take (k + 1)).map (shiftW (cnt a + 1)) = (m.take k).map (shiftW (cnt a + 1)) ++ [shiftW (cnt a + 1) x] := by
                  rw [List.take_succ_eq_append_getElem hlt, List.map_append, hx]; rfl
                rw [hdr] at ho2
                have c0 : wr.cell? ⟨g2, k * 4 + 3, none⟩ = some (.int .i64 (x.2.2.2 : Nat)) := by
                  rw [ho2.cellAt (k * 4 + 3) (by omega)]
                  have := wcells_at ((m.take k).map (shiftW (cnt a + 1)) ++ x :: m.drop (k + 1)) k (by simp; omega) 3 (by omega)
                  rw [this, List.getElem_append_right (by omega)]
                  simp only [hpl, Nat.sub_self, List.getElem_cons_zero]
                  rfl
                have f0 := ho2.frozenAt (k * 4 + 3)
                have hst := ho2.stored (k * 4 + 3) (.int .i64 ((x.2.2.2 : Int) + (1 + (cnt a : Int))))
                have hset : Hid ((wcells ((m.take k).map (shiftW (cnt a + 1)) ++ x :: m.drop (k + 1))).set (k * 4 + 3) (.int .i64 ((x.2.2.2 : Int) + (1 + (cnt a : Int)))) = wcells ((m.take (k + 1)).map (shiftW (cnt a + 1)) ++ m.drop (k + 1))) := by
                  have := wcells_set ((m.take k).map (shiftW (cnt a + 1))) (m.drop (k + 1)) x (cnt a + 1)
                  rw [hpl] at this
                  rw [hD.out]; show _ = _; rw [this, htk]
                have hon1 := ho1.kept hst.2 (by
                  rcases hq : (Value.slice a1 l.length cp1).ownBlock with _ | j
                  · exact .inl rfl
                  · exact .inr (fun e => by simp at e; exact h12.out j hq e))
                have hr' := hr.kept (w' := wr.setCell ⟨g2, k * 4 + 3, none⟩ (.int .i64 ((x.2.2.2 : Int) + (1 + (cnt a : Int))))) (fun j hj _ => Below.heap_setCell wr _ _ j (by
                  have := h13.out j (by simpa using hj)
                  exact this.1)) (by simp)
                have hb' := hb.setCell (p := ⟨g2, k * 4 + 3, none⟩) hg2w (.int .i64 ((x.2.2.2 : Int) + (1 + (cnt a : Int))))
                have HH := Lib.hid (And.intro hst.1 (And.intro hon1 (And.intro hr' hb')))
                clear hdr hpl htk hst hon1 hr' hb' ho2 ho1 hr hb hx
                go_wp2
                go_roundw
                case rel => exact ⟨k + 1, by omega, by go_num, by rw [← hset.out]; exact HH.out.1, HH.out.2.1, HH.out.2.2.1, HH.out.2.2.2, by simpa using hzk⟩
                case measure => simp [intOf]; omega
              · obtain rfl : k = m.length := by omega
                rw [List.take_length, List.drop_length, List.append_nil] at ho2
                have hcl2 : Hid (∀ j u, (wcells (m.map (shiftW (cnt a + 1))))[j]? = some u → wr.cell? ((⟨g2, 0, none⟩ : Addr).add j) = some u) := ho2.cells rfl
                have hlm : (wcells (m.map (shiftW (cnt a + 1)))).length = m.length * 4 := by rw [wcells_len]; simp
                have hone : Hid (∀ u ∈ wcells (m.map (shiftW (cnt a + 1))), u.oneCell' = true) := fun u hu => by
                  simp only [wcells, List.mem_flatMap] at hu
                  obtain ⟨y, _, hy⟩ := hu
                  simp [wcell] at hy
                  rcases hy with rfl | rfl | rfl | rfl <;> rfl
                replace hlm := Lib.hid hlm
                replace hr := Lib.hid hr
                replace hb := Lib.hid hb
                clear ho2
                have hz1w : W1.heap.size ≤ wr.heap.size := by omega
                go_wp2_with (at_builtin; refine wpList_append_own _ rfl _ _ 22 rfl W1.heap.size 30 i0 _ 4 40 Tryd.underlying22 hi hz0 hz1 hz2' rfl (by decide) _ _ _ rfl ho1 ⟨g2, 0, none⟩ m.length cp2 (wcells (m.map (shiftW (cnt a + 1)))) rfl hlm.out hcl2.out hone.out ?c3 ?c4 ?c5 ?_)
                case c3 => unfold maxLen; omega
                case c4 => omega
                case c5 => exact hz1w
                intro v' w5 hown' hgrow _
                rw [← wcells_app] at hown'
                have hr5 : ReadsW w5 (.slice a3 (l ++ m.map (shiftW (cnt a + 1))).length cp3) (l ++ m.map (shiftW (cnt a + 1))) := hr.out.kept (fun j hj hjl => hgrow.block j hjl (fun e => by
                  have := h13.out j (by simpa using hj)
                  exact this.2 j e.symm rfl)) hgrow.size
                have hb5 := hb.out.grown hgrow (by have := hb.out.size; omega) (fun j hj => by
                  have := (ho1.lt j hj).1; omega)
                have cS := sameWords_eq _ _ _ w5 hr5 (ReadsW.own hown' (by simp))
                rw [show (l ++ m.map (shiftW (cnt a + 1))).length = l.length + m.length by simp] at cS
                replace hb5 := Lib.hid hb5
                clear hown' hgrow hr5 ho1
                go_wp2_with (go_at_call 11; refine cS.mono ?_)
                rintro e W6 ⟨rfl, hb6⟩
                have hbf2 := Lib.hid (hb5.out.trans (hb6.mono hb5.out.size))
                clear cS hb6
                go_wp2
                go_ret
                exact ⟨rfl, hbf2.out⟩
end Go.Proofs.YtimdkdengdhglaaDoor
