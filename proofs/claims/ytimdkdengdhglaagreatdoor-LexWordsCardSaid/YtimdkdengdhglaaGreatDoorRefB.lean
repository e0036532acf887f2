/- Contracts of the reference's run, Number. -/
import Derived.Test.YtimdkdengdhglaaGreatDoorRefA
namespace Go.Proofs.YtimdkdengdhglaaGreatDoor
open Go Go.RowKit

theorem tw_step (l : List UInt8) (j : Nat) (h : j < l.length) : ((l.drop j).takeWhile part).length = if part l[j] then ((l.drop (j + 1)).takeWhile part).length + 1 else 0 := by
  rw [List.drop_eq_getElem_cons h, List.takeWhile_cons]
  split <;> simp

set_option maxHeartbeats 1000000 in
set_option maxRecDepth 100000 in
theorem rrun_any (l : List UInt8) (k : Nat) (w : World) (hk : k ≤ l.length) (hlen : l.length ≤ 140737488355328) :
    Calls Tryz.prog 150 #[.string (bs l), .int .i64 (k : Nat)] w fun e w' => e = .returned (.int .i64 ((k + ((l.drop k).takeWhile part).length : Nat) : Int)) ∧ w' = w := by
  have hsz := bs_size l
  have hgg : Hid (∀ (k : Nat) (hk : k < l.length) (h : k < (bs l).size), (bs l)[k]'h = l[k]'hk) := fun k hk h => bs_get l k h
  generalize bs l = S at *
  go_enter Tryz.func150, Tryz.ntmps150
  go_wp2
  go_loop [1] (fun i => ∃ j : Nat, j ≤ l.length ∧ i = .int .i64 (j : Nat) ∧ j + ((l.drop j).takeWhile part).length = k + ((l.drop k).takeWhile part).length) (fun i => l.length - (intOf i).toNat)
  case atStart => exact ⟨k, hk, rfl, rfl⟩
  case round =>
    obtain ⟨j, hj, rfl, he⟩ := hrel
    by_cases hlt : j < l.length
    · have hg : ∀ h, S[j]'h = l[j] := fun h => hgg.out j hlt h
      have ht := tw_step l j hlt
      have cN := rname_any (l[j]'hlt) w
      generalize l[j]'hlt = c at *
      by_cases hp : part c = true
      · rw [if_pos hp] at ht
        replace he := Lib.hid he
        replace ht := Lib.hid ht
        go_wp2_with (go_at_call 149; refine cN.mono ?_; rintro e w' ⟨rfl, rfl⟩)
        go_round
        case rel => exact ⟨j + 1, by omega, by go_num, by have := he.out; have := ht.out; omega⟩
        case measure => simp [intOf]; omega
      · have hp' : part c = false := by simpa using hp
        rw [if_neg hp] at ht
        replace he := Lib.hid he
        replace ht := Lib.hid ht
        clear hp
        go_wp2_with (go_at_call 149; refine cN.mono ?_; rintro e w' ⟨rfl, rfl⟩)
        go_ret
        exact ⟨ret_int (by have := he.out; have := ht.out; omega), rfl⟩
    · obtain rfl : j = l.length := by omega
      have h0 : ((l.drop l.length).takeWhile part).length = 0 := by simp
      replace he := Lib.hid he
      replace h0 := Lib.hid h0
      go_wp2
      go_ret
      exact ⟨ret_int (by have := he.out; have := h0.out; omega), rfl⟩

/-- What Number answers. -/
def NumPost (s : List UInt8) (w : World) (e : Ending) (w' : World) : Prop :=
  w' = w ∧ ∃ (n : Int) (ok : Bool), e = .returned (.tuple #[.int .i64 n, .bool ok]) ∧ ((ok = true ∧ numL s = some n) ∨ (ok = false ∧ numL s = none))
theorem numPost_none {s : List UInt8} {w : World} {e : Ending} {w' : World} (hw : w' = w) (n : Int) (he : e = .returned (.tuple #[.int .i64 n, .bool false])) (h : numL s = none) : NumPost s w e w' :=
  ⟨hw, n, false, he, .inr ⟨rfl, h⟩⟩

/-- The digits of s (off: behind its sign). -/
theorem digits_step (ds : List UInt8) (j : Nat) (h : j < ds.length) : valL (ds.take (j + 1)) = 10 * valL (ds.take j) + (ds[j].toNat - 48) := by
  rw [List.take_succ_eq_append_getElem h, valL_snoc]

set_option maxHeartbeats 4000000 in
set_option maxRecDepth 100000 in
theorem rnumber_neg (ds : List UInt8) (w : World) (hlen : ds.length ≤ 140737488355328) :
    Calls Tryz.prog 152 #[.string (bs (45 :: ds))] w (NumPost (45 :: ds) w) := by
  have hsz : (bs (45 :: ds)).size = ds.length + 1 := by rw [bs_size]; simp
  have hg0 : ∀ h, (bs (45 :: ds))[0]'h = 45 := fun h => bs_get (45 :: ds) 0 h
  have hgg : Hid (∀ (k : Nat) (hk : k < ds.length) (h : k + 1 < (bs (45 :: ds)).size), (bs (45 :: ds))[k + 1]'h = ds[k]'hk) := fun k hk h => bs_get (45 :: ds) (k + 1) h
  by_cases hd0 : ds.length = 0
  · have hN : Hid (numL (45 :: ds) = none) := none_neg ds (fun u _ _ e => by
      obtain ⟨c, r, hc, _⟩ := decDigits_cons u
      rw [e, hc] at hd0; simp at hd0)
    generalize bs (45 :: ds) = S at *
    go_enter Tryz.func152, Tryz.ntmps152
    go_wp2
    go_ret2
    exact numPost_none rfl 0 rfl hN.out
  · by_cases hd1 : 20 < ds.length + 1
    · have hN : Hid (numL (45 :: ds) = none) := none_neg ds (fun u _ h2 e => by
        have := dec_len19 u h2
        rw [← e] at this; omega)
      generalize bs (45 :: ds) = S at *
      go_enter Tryz.func152, Tryz.ntmps152
      go_wp2
      go_ret2
      exact numPost_none rfl 0 rfl hN.out
    · have h0p : 0 < ds.length := Nat.pos_of_ne_zero hd0
      obtain ⟨c0, hc0⟩ : ∃ c0, ds.head? = some c0 := ⟨ds[0]'h0p, by rw [List.head?_eq_getElem?, List.getElem?_eq_getElem h0p]⟩
      have hg1 : ∀ h, (bs (45 :: ds))[1]'h = c0 := fun h => by
        rw [hgg.out 0 h0p h]
        rw [List.head?_eq_getElem?, List.getElem?_eq_getElem h0p] at hc0
        simpa using hc0
      by_cases hz : c0 = 48
      · have hN : Hid (numL (45 :: ds) = none) := none_neg ds (fun u h1 h2 e => by
          have := (dec_zero ds (by rw [hc0, hz]) u e).1
          omega)
        rw [hz] at hg1
        generalize bs (45 :: ds) = S at *
        go_enter Tryz.func152, Tryz.ntmps152
        go_wp2
        go_ret2
        exact numPost_none rfl 0 rfl hN.out
      · have hz' : ((c0.toNat : Int) == 48) = false := by
          rw [beq_eq_false_iff_ne]; intro h; apply hz; apply UInt8.toNat_inj.1; simp; omega
        have hhead : Hid (ds.head? ≠ some 48 ∨ ds.length = 1) := .inl (by
          rw [hc0]; simpa using hz)
        have hnn : Hid (ds ≠ []) := fun e => by rw [e] at hd0; simp at hd0
        generalize bs (45 :: ds) = S at *
        replace hc0 := Lib.hid hc0
        replace hz := Lib.hid hz
        have t1 : ((1 : Int) == (ds.length : Int) + 1) = false := by rw [beq_eq_false_iff_ne]; omega
        have t2 : decide ((20 : Int) < (ds.length : Int) + 1) = false := by simp; omega
        go_enter Tryz.func152, Tryz.ntmps152
        go_wp2
        go_loop [5, 6] (fun i n => ∃ j : Nat, j ≤ ds.length ∧ i = .int .i64 ((j + 1 : Nat) : Int) ∧ n = .int .u64 (valL (ds.take j) : Nat) ∧ valL (ds.take j) ≤ 9223372036854775809 ∧ ∀ c ∈ ds.take j, digitB c = true) (fun i _ => ds.length + 1 - (intOf i).toNat)
        case atStart => exact ⟨0, Nat.zero_le _, rfl, rfl, by simp [valL], by simp⟩
        case round =>
          obtain ⟨j, hj, rfl, rfl, hv, had⟩ := hrel
          by_cases hlt : j < ds.length
          · have hg : ∀ h, S[j + 1]'h = ds[j] := fun h => hgg.out j hlt h
            have cD := rdigit_any (ds[j]'hlt) w
            have hst := digits_step ds j hlt
            by_cases hdj : digitB (ds[j]'hlt) = true
            · have hdr := (digitB_iff _).1 hdj
              have had' : Hid (∀ c ∈ ds.take (j + 1), digitB c = true) := by
                intro c hc
                rw [List.take_succ_eq_append_getElem hlt] at hc
                rcases List.mem_append.1 hc with h | h
                · exact had c h
                · simp at h; rw [h]; exact hdj
              by_cases hgr : 922337203685477580 < valL (ds.take j)
              · have hN : Hid (numL (45 :: ds) = none) := none_neg ds (fun u _ h2 => dec_great ds j hlt hgr u h2)
                generalize ds[j]'hlt = c at *
                generalize valL (ds.take j) = v at *
                replace had := Lib.hid had
                replace hst := Lib.hid hst
                go_wp2_with (go_at_call 151; refine cD.mono ?_; rintro e w' ⟨rfl, rfl⟩)
                go_ret2
                exact numPost_none rfl 0 rfl hN.out
              · generalize ds[j]'hlt = c at *
                generalize valL (ds.take j) = v at *
                replace had := Lib.hid had
                replace hst := Lib.hid hst
                go_wp2_with (go_at_call 151; refine cD.mono ?_; rintro e w' ⟨rfl, rfl⟩)
                go_round
                case rel => exact ⟨j + 1, by omega, by go_num, by rw [hst.out]; congr 1; simp; omega, by rw [hst.out]; omega, had'.out⟩
                case measure => simp [intOf]; omega
            · have hdj' : digitB (ds[j]'hlt) = false := by simpa using hdj
              have hN : Hid (numL (45 :: ds) = none) := none_neg ds (fun u _ _ => dec_not_digit ds j hlt hdj' u)
              generalize ds[j]'hlt = c at *
              generalize valL (ds.take j) = v at *
              replace had := Lib.hid had
              replace hst := Lib.hid hst
              clear hdj
              go_wp2_with (go_at_call 151; refine cD.mono ?_; rintro e w' ⟨rfl, rfl⟩)
              go_ret2
              exact numPost_none rfl 0 rfl hN.out
          · obtain rfl : j = ds.length := by omega
            rw [List.take_length] at hv had ⊢
            have hcan := dec_valL ds.length ds rfl hnn.out had hhead.out
            have hvd := valL_dec (valL ds)
            by_cases hb : valL ds ≤ 9223372036854775808
            · have hv1 : 1 ≤ valL ds := by
                rcases Nat.eq_zero_or_pos (valL ds) with h | h
                · exfalso
                  rw [h] at hcan
                  rcases hhead.out with h2 | h2
                  · apply h2; rw [← hcan, Lib.decDigits_one (by decide)]; rfl
                  · have h3 : ds.head? = some 48 := by rw [← hcan, Lib.decDigits_one (by decide)]; rfl
                    rw [hc0.out] at h3
                    exact hz.out (by simpa using h3)
                · exact h
              have hN : Hid (numL (45 :: ds) = some (-(valL ds : Int))) := (numL_neg ds _).2 ⟨valL ds, hv1, hb, hcan.symm, rfl⟩
              replace had := Lib.hid had
              replace hcan := Lib.hid hcan
              clear hvd
              generalize valL ds = v at *
              have f1 : wrap64 (IntKind.u64.wrap (-(v : Int))) = -(v : Int) := by simp [wrap64, IntKind.wrap, IntKind.bits, IntKind.signed]; omega
              have f2 : decide ((v : Int) ≤ 9223372036854775808) = true := by simp; omega
              go_wp2
              go_ret2
              exact ⟨rfl, _, true, rfl, .inl ⟨rfl, hN.out⟩⟩
            · have hN : Hid (numL (45 :: ds) = none) := none_neg ds (fun u _ h2 e => by
                have := valL_dec u
                rw [← e] at this; omega)
              replace had := Lib.hid had
              replace hcan := Lib.hid hcan
              clear hvd
              generalize valL ds = v at *
              have f2 : decide ((v : Int) ≤ 9223372036854775808) = false := by simp; omega
              go_wp2
              go_ret2
              exact numPost_none rfl _ rfl hN.out

set_option maxHeartbeats 4000000 in
set_option maxRecDepth 100000 in
theorem rnumber_pos (ds : List UInt8) (w : World) (h45 : ds.head? ≠ some 45) (hlen : ds.length ≤ 140737488355328) :
    Calls Tryz.prog 152 #[.string (bs ds)] w (NumPost ds w) := by
  have hsz := bs_size ds
  have hgg : Hid (∀ (k : Nat) (hk : k < ds.length) (h : k < (bs ds).size), (bs ds)[k]'h = ds[k]'hk) := fun k hk h => bs_get ds k h
  by_cases hd0 : ds.length = 0
  · have hN : Hid (numL ds = none) := none_pos ds h45 (fun u _ e => by
      obtain ⟨c, r, hc, _⟩ := decDigits_cons u
      rw [e, hc] at hd0; simp at hd0)
    generalize bs ds = S at *
    clear h45
    go_enter Tryz.func152, Tryz.ntmps152
    go_wp2
    go_ret2
    exact numPost_none rfl 0 rfl hN.out
  · have h0p : 0 < ds.length := Nat.pos_of_ne_zero hd0
    obtain ⟨c0, hc0⟩ : ∃ c0, ds.head? = some c0 := ⟨ds[0]'h0p, by rw [List.head?_eq_getElem?, List.getElem?_eq_getElem h0p]⟩
    have hg0 : ∀ h, (bs ds)[0]'h = c0 := fun h => by
      rw [hgg.out 0 h0p h]
      rw [List.head?_eq_getElem?, List.getElem?_eq_getElem h0p] at hc0
      simpa using hc0
    have t45 : ((c0.toNat : Int) == 45) = false := by
      rw [beq_eq_false_iff_ne]; intro h; apply h45; rw [hc0]; congr 1; apply UInt8.toNat_inj.1; simp; omega
    have t1 : ((0 : Int) == (ds.length : Int)) = false := by rw [beq_eq_false_iff_ne]; omega
    replace h45 := Lib.hid h45
    by_cases hd1 : 20 < ds.length
    · have hN : Hid (numL ds = none) := none_pos ds h45.out (fun u h2 e => by
        have := dec_len19 u (by omega)
        rw [← e] at this; omega)
      replace hc0 := Lib.hid hc0
      have t2 : decide ((20 : Int) < (ds.length : Int)) = true := by simp; omega
      generalize bs ds = S at *
      go_enter Tryz.func152, Tryz.ntmps152
      go_wp2
      go_ret2
      exact numPost_none rfl 0 rfl hN.out
    · have t2 : decide ((20 : Int) < (ds.length : Int)) = false := by simp; omega
      have hnn : Hid (ds ≠ []) := fun e => by rw [e] at hd0; simp at hd0
      by_cases hz : c0 = 48
      · subst hz
        by_cases ho : 1 < ds.length
        · have hN : Hid (numL ds = none) := none_pos ds h45.out (fun u h2 e => by
            have := (dec_zero ds hc0 u e).2
            omega)
          replace hc0 := Lib.hid hc0
          have t3 : decide ((1 : Int) < (ds.length : Int)) = true := by simp; omega
          generalize bs ds = S at *
          go_enter Tryz.func152, Tryz.ntmps152
          go_wp2
          go_ret2
          exact numPost_none rfl 0 rfl hN.out
        · have t3 : decide ((1 : Int) < (ds.length : Int)) = false := by simp; omega
          have hhead : Hid (ds.head? ≠ some 48 ∨ ds.length = 1) := .inr (by omega)
          replace hc0 := Lib.hid hc0
          generalize bs ds = S at *
          go_enter Tryz.func152, Tryz.ntmps152
          go_wp2
          go_loop [5, 6] (fun i n => ∃ j : Nat, j ≤ ds.length ∧ i = .int .i64 (j : Nat) ∧ n = .int .u64 (valL (ds.take j) : Nat) ∧ valL (ds.take j) ≤ 9223372036854775809 ∧ ∀ c ∈ ds.take j, digitB c = true) (fun i _ => ds.length - (intOf i).toNat)
          case atStart => exact ⟨0, Nat.zero_le _, rfl, rfl, by simp [valL], by simp⟩
          case round =>
            obtain ⟨j, hj, rfl, rfl, hv, had⟩ := hrel
            by_cases hlt : j < ds.length
            · have hg : ∀ h, S[j]'h = ds[j] := fun h => hgg.out j hlt h
              have cD := rdigit_any (ds[j]'hlt) w
              have hst := digits_step ds j hlt
              by_cases hdj : digitB (ds[j]'hlt) = true
              · have hdr := (digitB_iff _).1 hdj
                have had' : Hid (∀ c ∈ ds.take (j + 1), digitB c = true) := by
                  intro c hc
                  rw [List.take_succ_eq_append_getElem hlt] at hc
                  rcases List.mem_append.1 hc with h | h
                  · exact had c h
                  · simp at h; rw [h]; exact hdj
                by_cases hgr : 922337203685477580 < valL (ds.take j)
                · have hN : Hid (numL ds = none) := none_pos ds h45.out (fun u h2 => dec_great ds j hlt hgr u (by omega))
                  generalize ds[j]'hlt = c at *
                  generalize valL (ds.take j) = v at *
                  replace had := Lib.hid had
                  replace hst := Lib.hid hst
                  go_wp2_with (go_at_call 151; refine cD.mono ?_; rintro e w' ⟨rfl, rfl⟩)
                  go_ret2
                  exact numPost_none rfl 0 rfl hN.out
                · generalize ds[j]'hlt = c at *
                  generalize valL (ds.take j) = v at *
                  replace had := Lib.hid had
                  replace hst := Lib.hid hst
                  go_wp2_with (go_at_call 151; refine cD.mono ?_; rintro e w' ⟨rfl, rfl⟩)
                  go_round
                  case rel => exact ⟨j + 1, by omega, by go_num, by rw [hst.out]; congr 1; simp; omega, by rw [hst.out]; omega, had'.out⟩
                  case measure => simp [intOf]; omega
              · have hdj' : digitB (ds[j]'hlt) = false := by simpa using hdj
                have hN : Hid (numL ds = none) := none_pos ds h45.out (fun u _ => dec_not_digit ds j hlt hdj' u)
                generalize ds[j]'hlt = c at *
                generalize valL (ds.take j) = v at *
                replace had := Lib.hid had
                replace hst := Lib.hid hst
                clear hdj
                go_wp2_with (go_at_call 151; refine cD.mono ?_; rintro e w' ⟨rfl, rfl⟩)
                go_ret2
                exact numPost_none rfl 0 rfl hN.out
            · obtain rfl : j = ds.length := by omega
              rw [List.take_length] at hv had ⊢
              have hcan := dec_valL ds.length ds rfl hnn.out had hhead.out
              have hvd := valL_dec (valL ds)
              by_cases hb : valL ds ≤ 9223372036854775807
              · have hN : Hid (numL ds = some (valL ds : Int)) := (numL_pos ds _ h45.out).2 ⟨valL ds, hb, hcan.symm, rfl⟩
                replace had := Lib.hid had
                replace hcan := Lib.hid hcan
                clear hvd
                generalize valL ds = v at *
                have f1 : wrap64 (v : Int) = (v : Int) := by simp [wrap64]; omega
                have f2 : decide ((v : Int) ≤ 9223372036854775807) = true := by simp; omega
                go_wp2
                go_ret2
                exact ⟨rfl, _, true, rfl, .inl ⟨rfl, hN.out⟩⟩
              · have hN : Hid (numL ds = none) := none_pos ds h45.out (fun u h2 e => by
                  have := valL_dec u
                  rw [← e] at this; omega)
                replace had := Lib.hid had
                replace hcan := Lib.hid hcan
                clear hvd
                generalize valL ds = v at *
                have f2 : decide ((v : Int) ≤ 9223372036854775807) = false := by simp; omega
                go_wp2
                go_ret2
                exact numPost_none rfl _ rfl hN.out
      · have hz' : ((c0.toNat : Int) == 48) = false := by
          rw [beq_eq_false_iff_ne]; intro h; apply hz; apply UInt8.toNat_inj.1; simp; omega
        have hhead : Hid (ds.head? ≠ some 48 ∨ ds.length = 1) := .inl (by
          rw [hc0]; simpa using hz)
        replace hc0 := Lib.hid hc0
        replace hz := Lib.hid hz
        generalize bs ds = S at *
        go_enter Tryz.func152, Tryz.ntmps152
        go_wp2
        go_loop [5, 6] (fun i n => ∃ j : Nat, j ≤ ds.length ∧ i = .int .i64 (j : Nat) ∧ n = .int .u64 (valL (ds.take j) : Nat) ∧ valL (ds.take j) ≤ 9223372036854775809 ∧ ∀ c ∈ ds.take j, digitB c = true) (fun i _ => ds.length - (intOf i).toNat)
        case atStart => exact ⟨0, Nat.zero_le _, rfl, rfl, by simp [valL], by simp⟩
        case round =>
          obtain ⟨j, hj, rfl, rfl, hv, had⟩ := hrel
          by_cases hlt : j < ds.length
          · have hg : ∀ h, S[j]'h = ds[j] := fun h => hgg.out j hlt h
            have cD := rdigit_any (ds[j]'hlt) w
            have hst := digits_step ds j hlt
            by_cases hdj : digitB (ds[j]'hlt) = true
            · have hdr := (digitB_iff _).1 hdj
              have had' : Hid (∀ c ∈ ds.take (j + 1), digitB c = true) := by
                intro c hc
                rw [List.take_succ_eq_append_getElem hlt] at hc
                rcases List.mem_append.1 hc with h | h
                · exact had c h
                · simp at h; rw [h]; exact hdj
              by_cases hgr : 922337203685477580 < valL (ds.take j)
              · have hN : Hid (numL ds = none) := none_pos ds h45.out (fun u h2 => dec_great ds j hlt hgr u (by omega))
                generalize ds[j]'hlt = c at *
                generalize valL (ds.take j) = v at *
                replace had := Lib.hid had
                replace hst := Lib.hid hst
                go_wp2_with (go_at_call 151; refine cD.mono ?_; rintro e w' ⟨rfl, rfl⟩)
                go_ret2
                exact numPost_none rfl 0 rfl hN.out
              · generalize ds[j]'hlt = c at *
                generalize valL (ds.take j) = v at *
                replace had := Lib.hid had
                replace hst := Lib.hid hst
                go_wp2_with (go_at_call 151; refine cD.mono ?_; rintro e w' ⟨rfl, rfl⟩)
                go_round
                case rel => exact ⟨j + 1, by omega, by go_num, by rw [hst.out]; congr 1; simp; omega, by rw [hst.out]; omega, had'.out⟩
                case measure => simp [intOf]; omega
            · have hdj' : digitB (ds[j]'hlt) = false := by simpa using hdj
              have hN : Hid (numL ds = none) := none_pos ds h45.out (fun u _ => dec_not_digit ds j hlt hdj' u)
              generalize ds[j]'hlt = c at *
              generalize valL (ds.take j) = v at *
              replace had := Lib.hid had
              replace hst := Lib.hid hst
              clear hdj
              go_wp2_with (go_at_call 151; refine cD.mono ?_; rintro e w' ⟨rfl, rfl⟩)
              go_ret2
              exact numPost_none rfl 0 rfl hN.out
          · obtain rfl : j = ds.length := by omega
            rw [List.take_length] at hv had ⊢
            have hcan := dec_valL ds.length ds rfl hnn.out had hhead.out
            have hvd := valL_dec (valL ds)
            by_cases hb : valL ds ≤ 9223372036854775807
            · have hN : Hid (numL ds = some (valL ds : Int)) := (numL_pos ds _ h45.out).2 ⟨valL ds, hb, hcan.symm, rfl⟩
              replace had := Lib.hid had
              replace hcan := Lib.hid hcan
              clear hvd
              generalize valL ds = v at *
              have f1 : wrap64 (v : Int) = (v : Int) := by simp [wrap64]; omega
              have f2 : decide ((v : Int) ≤ 9223372036854775807) = true := by simp; omega
              go_wp2
              go_ret2
              exact ⟨rfl, _, true, rfl, .inl ⟨rfl, hN.out⟩⟩
            · have hN : Hid (numL ds = none) := none_pos ds h45.out (fun u h2 e => by
                have := valL_dec u
                rw [← e] at this; omega)
              replace had := Lib.hid had
              replace hcan := Lib.hid hcan
              clear hvd
              generalize valL ds = v at *
              have f2 : decide ((v : Int) ≤ 9223372036854775807) = false := by simp; omega
              go_wp2
              go_ret2
              exact numPost_none rfl _ rfl hN.out

theorem rnumber_any (s : List UInt8) (w : World) (hlen : s.length ≤ 140737488355328) :
    Calls Tryz.prog 152 #[.string (bs s)] w (NumPost s w) := by
  by_cases h : s.head? = some 45
  · cases s with
    | nil => simp at h
    | cons c t => simp at h; subst h; exact rnumber_neg t w (by simp at hlen; omega)
  · exact rnumber_pos s w h hlen
end Go.Proofs.YtimdkdengdhglaaGreatDoor
