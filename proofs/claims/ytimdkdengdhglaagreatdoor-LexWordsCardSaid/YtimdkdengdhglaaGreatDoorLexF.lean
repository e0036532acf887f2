/- The contract of the scanner's word where a number stands. -/
import Derived.Test.YtimdkdengdhglaaGreatDoorLexE
import Derived.Lib.SmallJoins
namespace Go.Proofs.YtimdkdengdhglaaGreatDoor
open Go Go.RowKit

theorem below_bytesWorld (w : World) (e : TypeId) (t : ByteArray) : Below w.heap.size w (Lib.bytesWorld w e t) :=
  ⟨rfl, rfl, rfl, by rw [Lib.bytesWorld_size]; omega, fun i hi => Lib.bytesWorld_at_old w e t i hi⟩
theorem below_grow (w : World) (k : Nat) (os : Array Obj) : Below w.heap.size w (Go.Sort.grow (w.drewN k) os) :=
  ⟨rfl, rfl, rfl, by show w.heap.size ≤ (w.heap ++ os).size; rw [Array.size_append]; omega, fun j hj => by show (w.heap ++ os)[j]? = _; rw [Array.getElem?_append_left hj]⟩
theorem Env.set {w : World} (h : Env w) {p : Addr} (hp : EnvUnder p.block) (v : Value) : Env (w.setCell p v) :=
  h.below ((Below.refl p.block w).setCell (Nat.le_refl _) v) hp
theorem Env.alloc {w : World} (h : Env w) (o : Obj) : Env (w.alloc o) := h.below ((Below.refl _ w).alloc (Nat.le_refl _) o) h.size
theorem EnvUnder.mono {B B' : Nat} (h : EnvUnder B) (hB : B ≤ B') : EnvUnder B' := ⟨by have := h.1; omega, by have := h.2.1; omega, by have := h.2.2; omega⟩
theorem parse_bounds (s : List UInt8) (v : Int) (h : Lib.parseIntB 64 s = .ok v) : -9223372036854775808 ≤ v ∧ v ≤ 9223372036854775807 := by
  cases s with
  | nil => simp [Lib.parseIntB] at h
  | cons c r =>
    have p : (2 : Nat) ^ (64 - 1) = 9223372036854775808 := by decide
    simp only [Lib.parseIntB] at h
    rw [p] at h
    split at h
    · simp at h
    · simp at h
    · rename_i u _
      split at h
      · simp at h
      · split at h
        · simp at h
        · rename_i h1 h2
          simp only [Lib.NumEnd.ok.injEq] at h
          subst h
          split
          · rename_i hn
            have : u ≤ 9223372036854775808 := by
              by_cases hu : 9223372036854775808 < u
              · exact absurd ⟨hn, hu⟩ h2
              · omega
            omega
          · rename_i hn
            have : u < 9223372036854775808 := by
              by_cases hu : 9223372036854775808 ≤ u
              · exact absurd ⟨hn, hu⟩ h1
              · omega
            omega

theorem fmt_any (v : Int) (w : World) (h0 : -9223372036854775808 ≤ v ∧ v ≤ 9223372036854775807) (hE : Env w) :
    Calls Tryz.prog 146 #[.int .i64 v, .int .i64 10] w fun e w' => e = .returned (.string (bs (Lib.itoa v))) ∧ Below w.heap.size w w' :=
  (Tryz.strconv_FormatInt_10 v h0.1 h0.2 w hE.2.2).mono fun e w' ⟨he, k, os, hw⟩ => ⟨he, hw ▸ below_grow w k os⟩

/-- ParseInt at base 10: its number or an error. -/
def ParsePost (s : List UInt8) (w : World) (e : Ending) (w' : World) : Prop :=
  Below w.heap.size w w' ∧
  match Lib.parseIntB 64 s with
  | .ok v => e = .returned (.tuple #[.int .i64 v, .nilIface])
  | _ => ∃ (v : Int) (N : Nat), e = .returned (.tuple #[.int .i64 v, .iface 258 (.pointer (some ⟨N, 0, none⟩))])
theorem parse_any (s : List UInt8) (w : World) (hlim : s.length ≤ 1000000) (hE : Env w) :
    Calls Tryz.prog 145 #[.string (bs s), .int .i64 10, .int .i64 64] w (ParsePost s w) := by
  obtain ⟨⟨t1, p1, h1⟩, ⟨t2, p2, h2⟩, h3⟩ := hE
  have hs := bs_size s
  rcases h : Lib.parseIntB 64 s with v | _ | _
  · refine (Tryz.strconv_ParseInt_10_at64_ok (bs s) (by omega) v h w).mono ?_
    rintro e w' ⟨rfl, hw⟩
    refine ⟨?_, by rw [h]⟩
    rcases hw with rfl | ⟨t, rfl⟩
    · exact Below.refl _ _
    · exact below_bytesWorld _ _ _
  · have c : Calls Tryz.prog 145 _ _ _ := Any.strconv_ParseInt_10_at64_syntax_var Tryz.laysC174 (bs s) (by omega) h t1 p1 w h1
    refine c.mono ?_
    rintro e w' ⟨N, rfl, _, _, hb⟩
    exact ⟨hb, by rw [h]; exact ⟨_, N, rfl⟩⟩
  · refine (Tryz.strconv_ParseInt_10_at64_range_var (bs s) (by omega) h t2 p2 w h2).mono ?_
    rintro e w' ⟨N, rfl, _, _, hb⟩
    exact ⟨hb, by rw [h]; exact ⟨_, N, rfl⟩⟩

set_option maxHeartbeats 2000000 in
set_option maxRecDepth 100000 in
theorem word_num (b : Nat) (c : UInt8) (r : List UInt8) (ln : Nat) (w : World) (hl : (c :: r).length ≤ 1000000) (hc : c ≠ 40 ∧ c ≠ 41 ∧ c ≠ 34) (hnum : isNum ((c :: r).takeWhile part) = true) (hE : Env w) (hbE : EnvUnder b) (hb : Scan w b (c :: r) (ln : Int)) :
    Calls Tryz.prog 83 #[.pointer (some ⟨b, 0, none⟩)] w (WordPost b ln w (restL (c :: r))) := by
  have hbw := hb.lt
  have c0 := hb.c0
  have c1 := hb.c1
  have hsz : 1 ≤ (bs (c :: r)).size := by rw [bs_size]; simp
  have hget : ∀ h : 0 < (bs (c :: r)).size, (bs (c :: r))[0]'h = c := fun h => by rw [bs_get]; rfl
  have t0 : ((c.toNat : Int) == 40) = false := by rw [beq_eq_false_iff_ne]; intro h; apply hc.1; apply UInt8.toNat_inj.1; simp; omega
  have t1 : ((c.toNat : Int) == 41) = false := by rw [beq_eq_false_iff_ne]; intro h; apply hc.2.1; apply UInt8.toNat_inj.1; simp; omega
  have t2 : ((c.toNat : Int) == 34) = false := by rw [beq_eq_false_iff_ne]; intro h; apply hc.2.2; apply UInt8.toNat_inj.1; simp; omega
  have cE := fun o o' => eat_word1 b (c :: r) ln ((w.alloc o).alloc o') hl ((hb.alloc o).alloc o')
  have hR : Hid (restL (c :: r) = (numL ((c :: r).takeWhile part)).map fun n => (2, [], n, (c :: r).dropWhile part)) := by
    show _ = _; unfold restL; simp [hnum]
  have hslen := tw_le part (c :: r)
  have ht := fun o o' => (((Touch.refl (fun k => k = b) w).set (p := ⟨b, 0, none⟩) rfl (.string (bs ((c :: r).dropWhile part)))).alloc o).alloc o'
  have hs := fun o o' => ((hb.set0 ((c :: r).dropWhile part)).alloc o).alloc o'
  have hN := fun o o' => two_new (w.setCell ⟨b, 0, none⟩ (.string (bs ((c :: r).dropWhile part)))) o o'
  have HN := Lib.hid (And.intro ht (And.intro hs hN))
  have cT : ∀ W, Calls Tryz.prog 144 #[.string (bs ((c :: r).takeWhile part)), .string ⟨#[45]⟩] W fun e w' => e = .returned (.string (bs (Lib.trimPrefix ((c :: r).takeWhile part) [45]))) ∧ w' = W := fun W => Tryz.strings_TrimPrefix _ _ W
  have hT : Hid (isNum ((c :: r).takeWhile part) = match Lib.trimPrefix ((c :: r).takeWhile part) [45] with | [] => false | c :: _ => kindOf c == 2) := rfl
  replace hT : Hid ((match Lib.trimPrefix ((c :: r).takeWhile part) [45] with | [] => false | c :: _ => kindOf c == 2) = true) := by
    show _ = _; rw [← hT.out, hnum]
  clear hb ht hs hN hc hnum
  have hlim : ((c :: r).takeWhile part).length ≤ 1000000 := by omega
  clear hslen hl
  generalize (c :: r).takeWhile part = s at *
  generalize (c :: r).dropWhile part = D at *
  generalize bs (c :: r) = S at *
  generalize Lib.trimPrefix s [45] = T at *
  have hP : Hid (∀ W, Env W → Calls Tryz.prog 145 #[.string (bs s), .int .i64 10, .int .i64 64] W (ParsePost s W)) := fun W h => parse_any s W hlim h
  have hHE := Lib.hid hE
  have hHb := Lib.hid hbE
  clear hE hbE
  cases T with
  | nil => exact absurd hT.out (by simp)
  | cons d T =>
    have hTe : (bs (d :: T)).toList.isEmpty = false := by rw [Lib.toList_data]; rfl
    have hTg : ∀ h : 0 < (bs (d :: T)).size, (bs (d :: T))[0]'h = d := fun h => by rw [bs_get]; rfl
    have hTz : 1 ≤ (bs (d :: T)).size := by rw [bs_size]; simp
    have hk : ((kindOf d : Int) == 2) = true := by
      have := hT.out
      simp only [beq_iff_eq] at this
      rw [beq_iff_eq]; omega
    generalize bs (d :: T) = U at *
    clear hT
    go_enter Tryz.func83, Tryz.ntmps83
    go_wp2_with (first | (go_at_call 137; refine (cE _ _).mono ?_; rintro e w1 ⟨rfl, rfl⟩) | (go_at_call 144; refine (cT _).mono ?_; rintro e w1 ⟨rfl, rfl⟩) | (go_at_call 139; refine (of_any d _).mono ?_; rintro e w1 ⟨rfl, rfl⟩) | (go_at_call 145; refine (hP.out _ (((hHE.out.set (p := ⟨b, 0, none⟩) hHb.out _).alloc _).alloc _)).mono ?_))
    intro e W1 h1
    obtain ⟨hb1, hpv⟩ := h1
    have hEE := ((hHE.out.set (p := ⟨b, 0, none⟩) hHb.out (.string (bs D))).alloc (.cells #[.int .u8 0, .string ⟨#[]⟩, .int .i64 0, .int .i64 0] 86)).alloc (.cells #[.int .u8 0, .string ⟨#[]⟩, .int .i64 0, .int .i64 ln] 86)
    replace hEE := hEE.below hb1 hEE.size
    simp only [World.size_alloc, World.size_setCell] at hb1
    obtain ⟨ht, hs, hN⟩ := HN.out
    have ht1 := (ht _ _).below hb1 (fun k hk _ => by omega)
    have hs1 := (hs _ _).below hb1 (by omega)
    have hN := hN (.cells #[.int .u8 0, .string ⟨#[]⟩, .int .i64 0, .int .i64 0] 86) (.cells #[.int .u8 0, .string ⟨#[]⟩, .int .i64 0, .int .i64 ln] 86)
    simp only [World.size_alloc, World.size_setCell] at hN
    have n0 := (hb1.block w.heap.size (by omega)).trans hN.1
    have n1 := (hb1.block (w.heap.size + 1) (by omega)).trans hN.2
    obtain ⟨d0, d1, d2, d3, g0, g1, g2, g3⟩ := word_cells n0
    obtain ⟨k0, k1, k2, k3, l0, l1, l2, l3⟩ := word_cells n1
    have hW1 : w.heap.size + 2 ≤ W1.heap.size := by have := hb1.size; simp at this; omega
    have hways : (∃ v, Lib.parseIntB 64 s = .ok v ∧ e = .returned (.tuple #[.int .i64 v, .nilIface])) ∨
        (numL s = none ∧ ∃ (v : Int) (N : Nat), e = .returned (.tuple #[.int .i64 v, .iface 258 (.pointer (some ⟨N, 0, none⟩))])) := by
      rcases hpi : Lib.parseIntB 64 s with v | _ | _
      · rw [hpi] at hpv; exact .inl ⟨v, rfl, hpv⟩
      · rw [hpi] at hpv; exact .inr ⟨by unfold numL; rw [hpi], hpv⟩
      · rw [hpi] at hpv; exact .inr ⟨by unfold numL; rw [hpi], hpv⟩
    clear hpv
    rcases hways with ⟨v, hpi, rfl⟩ | ⟨hno, v, N, rfl⟩
    ·
      have hnum : Hid (numL s = if Lib.itoa v = s then some v else none) := by show _ = _; unfold numL; rw [hpi]
      have hvb := parse_bounds s v hpi
      have hF : Hid (∀ W, Env W → Calls Tryz.prog 146 #[.int .i64 v, .int .i64 10] W fun e w' => e = .returned (.string (bs (Lib.itoa v))) ∧ Below W.heap.size W w') := fun W h => fmt_any v W hvb h
      have HEE : Hid (Env ((W1.setCell ⟨w.heap.size + 1, 0, none⟩ (.int .u8 2)).setCell ⟨w.heap.size + 1, 2, none⟩ (.int .i64 v))) :=
        (hEE.set (hHE.out.size.mono (by simp)) _).set (hHE.out.size.mono (by simp)) _
      have htr := (ht1.setN (p := ⟨w.heap.size + 1, 0, none⟩) (by simp) (.int .u8 2)).setN (p := ⟨w.heap.size + 1, 2, none⟩) (by simp) (.int .i64 v)
      have hsr := (hs1.far (p := ⟨w.heap.size + 1, 0, none⟩) (by simp; omega) (.int .u8 2)).far (p := ⟨w.heap.size + 1, 2, none⟩) (by simp; omega) (.int .i64 v)
      have n0r := blk_far (blk_far n0 (p := ⟨w.heap.size + 1, 0, none⟩) (by simp) (.int .u8 2)) (p := ⟨w.heap.size + 1, 2, none⟩) (by simp) (.int .i64 v)
      have n1r := blk_set (blk_set n1 0 (.int .u8 2)) 2 (.int .i64 v)
      simp only [List.set_toArray, List.setIfInBounds_toArray, List.set_cons_zero, List.set_cons_succ] at n1r
      have hzr : w.heap.size + 2 ≤ ((W1.setCell ⟨w.heap.size + 1, 0, none⟩ (.int .u8 2)).setCell ⟨w.heap.size + 1, 2, none⟩ (.int .i64 v)).heap.size := by simpa using hW1
      have HH := Lib.hid (And.intro htr (And.intro hsr (And.intro n0r (And.intro n1r hzr))))
      clear hEE hN hs ht ht1 hs1 n0 n1 hb1 HN hpi hvb cE cT htr hsr n0r n1r hzr
      go_wp2
      obtain ⟨Wr, hWr⟩ : ∃ Wr, Wr = (W1.setCell ⟨w.heap.size + 1, 0, none⟩ (.int .u8 2)).setCell ⟨w.heap.size + 1, 2, none⟩ (.int .i64 v) := ⟨_, rfl⟩
      rw [← hWr]
      obtain ⟨htr, hsr, n0r, n1r, hzr⟩ := HH.out
      rw [← hWr] at htr hsr n0r n1r hzr HEE
      clear hWr HH d0 d1 d2 d3 g0 g1 g2 g3 k0 k1 k2 k3 l0 l1 l2 l3 hW1
      obtain ⟨d0, d1, d2, d3, g0, g1, g2, g3⟩ := word_cells n0r
      obtain ⟨k0, k1, k2, k3, l0, l1, l2, l3⟩ := word_cells n1r
      replace n0r := Lib.hid n0r
      replace n1r := Lib.hid n1r
      replace htr := Lib.hid htr
      replace hsr := Lib.hid hsr
      have HED : Hid (Env Wr.drew) := HEE.out
      by_cases hv : Lib.itoa v = s
      · rw [hv] at hF
        replace hv := Lib.hid hv
        go_region_with (go_at_call 146; refine (hF.out _ HED.out).mono ?_; rintro e W2 ⟨rfl, hb2⟩; have m0 := (hb2.block w.heap.size (by show _ < Wr.heap.size; omega)).trans n0r.out; have m1 := (hb2.block (w.heap.size + 1) (by show _ < Wr.heap.size; omega)).trans n1r.out; obtain ⟨p0, p1, p2, p3, q0, q1, q2, q3⟩ := word_cells m0; obtain ⟨r0, r1, r2, r3, s0, s1, s2, s3⟩ := word_cells m1)
        all_goals
          replace m0 := Lib.hid m0
          replace m1 := Lib.hid m1
          replace hb2 := Lib.hid hb2
          go_wp2
          refine word_end 2 ⟨#[]⟩ v true rfl rfl rfl m0.out ?_
          rintro W' rfl
          rw [hR.out, hnum.out, if_pos hv.out]
          have hS := (show Scan Wr.drew b D ln from hsr.out).below hb2.out (by show b < Wr.heap.size; omega)
          have hT := (show Touch (fun k => k = b) w Wr.drew from htr.out.drewN 1).below hb2.out (fun k hk _ => by show k < Wr.heap.size; omega)
          exact ⟨rfl, (((hS.far (p := ⟨w.heap.size, 0, none⟩) (by simp; omega) _).far (p := ⟨w.heap.size, 1, none⟩) (by simp; omega) _).far (p := ⟨w.heap.size, 2, none⟩) (by simp; omega) _).far (p := ⟨w.heap.size, 3, none⟩) (by simp; omega) _,
            (((hT.setN (p := ⟨w.heap.size, 0, none⟩) (by simp) _).setN (p := ⟨w.heap.size, 1, none⟩) (by simp) _).setN (p := ⟨w.heap.size, 2, none⟩) (by simp) _).setN (p := ⟨w.heap.size, 3, none⟩) (by simp) _⟩
      · have hne : ((bs (Lib.itoa v)).toList == (bs s).toList) = false := by
          rw [Lib.toList_data, Lib.toList_data, bs_data, bs_data]; simpa using hv
        replace hv := Lib.hid hv
        go_region_with (go_at_call 146; refine (hF.out _ HED.out).mono ?_; rintro e W2 ⟨rfl, hb2⟩; have m0 := (hb2.block w.heap.size (by show _ < Wr.heap.size; omega)).trans n0r.out; have m1 := (hb2.block (w.heap.size + 1) (by show _ < Wr.heap.size; omega)).trans n1r.out; obtain ⟨p0, p1, p2, p3, q0, q1, q2, q3⟩ := word_cells m0; obtain ⟨r0, r1, r2, r3, s0, s1, s2, s3⟩ := word_cells m1)
        all_goals
          replace m0 := Lib.hid m0
          replace m1 := Lib.hid m1
          replace hb2 := Lib.hid hb2
          go_wp2
          refine word_end 2 ⟨#[]⟩ v false rfl rfl rfl m0.out ?_
          rintro W' rfl
          rw [hR.out, hnum.out, if_neg hv.out]
          have hS := (show Scan Wr.drew b D ln from hsr.out).below hb2.out (by show b < Wr.heap.size; omega)
          have hT := (show Touch (fun k => k = b) w Wr.drew from htr.out.drewN 1).below hb2.out (fun k hk _ => by show k < Wr.heap.size; omega)
          exact ⟨⟨_, _, _, rfl⟩, (((hT.setN (p := ⟨w.heap.size, 0, none⟩) (by simp) _).setN (p := ⟨w.heap.size, 1, none⟩) (by simp) _).setN (p := ⟨w.heap.size, 2, none⟩) (by simp) _).setN (p := ⟨w.heap.size, 3, none⟩) (by simp) _,
            D, (((hS.far (p := ⟨w.heap.size, 0, none⟩) (by simp; omega) _).far (p := ⟨w.heap.size, 1, none⟩) (by simp; omega) _).far (p := ⟨w.heap.size, 2, none⟩) (by simp; omega) _).far (p := ⟨w.heap.size, 3, none⟩) (by simp; omega) _⟩
    · replace hno := Lib.hid hno
      have htr := (ht1.setN (p := ⟨w.heap.size + 1, 0, none⟩) (by simp) (.int .u8 2)).setN (p := ⟨w.heap.size + 1, 2, none⟩) (by simp) (.int .i64 v)
      have hsr := (hs1.far (p := ⟨w.heap.size + 1, 0, none⟩) (by simp; omega) (.int .u8 2)).far (p := ⟨w.heap.size + 1, 2, none⟩) (by simp; omega) (.int .i64 v)
      have n0r := blk_far (blk_far n0 (p := ⟨w.heap.size + 1, 0, none⟩) (by simp) (.int .u8 2)) (p := ⟨w.heap.size + 1, 2, none⟩) (by simp) (.int .i64 v)
      have n1r := blk_set (blk_set n1 0 (.int .u8 2)) 2 (.int .i64 v)
      simp only [List.set_toArray, List.setIfInBounds_toArray, List.set_cons_zero, List.set_cons_succ] at n1r
      have hzr : w.heap.size + 2 ≤ ((W1.setCell ⟨w.heap.size + 1, 0, none⟩ (.int .u8 2)).setCell ⟨w.heap.size + 1, 2, none⟩ (.int .i64 v)).heap.size := by simpa using hW1
      have HH := Lib.hid (And.intro htr (And.intro hsr (And.intro n0r (And.intro n1r hzr))))
      clear hEE hN hs ht ht1 hs1 n0 n1 hb1 HN  cE cT htr hsr n0r n1r hzr
      go_wp2
      obtain ⟨Wr, hWr⟩ : ∃ Wr, Wr = (W1.setCell ⟨w.heap.size + 1, 0, none⟩ (.int .u8 2)).setCell ⟨w.heap.size + 1, 2, none⟩ (.int .i64 v) := ⟨_, rfl⟩
      rw [← hWr]
      obtain ⟨htr, hsr, n0r, n1r, hzr⟩ := HH.out
      rw [← hWr] at htr hsr n0r n1r hzr
      clear hWr HH d0 d1 d2 d3 g0 g1 g2 g3 k0 k1 k2 k3 l0 l1 l2 l3 hW1
      obtain ⟨d0, d1, d2, d3, g0, g1, g2, g3⟩ := word_cells n0r
      obtain ⟨k0, k1, k2, k3, l0, l1, l2, l3⟩ := word_cells n1r
      replace n0r := Lib.hid n0r
      replace n1r := Lib.hid n1r
      replace htr := Lib.hid htr
      replace hsr := Lib.hid hsr
      go_region
      all_goals
        go_wp2
        rw [set4_drew]
        refine word_end (W := Wr.drew) 2 ⟨#[]⟩ v false rfl rfl rfl n0r.out ?_
        rintro W' rfl
        rw [hR.out, hno.out]
        have hS : Scan Wr.drew b D ln := hsr.out
        have hT : Touch (fun k => k = b) w Wr.drew := htr.out.drewN 1
        exact ⟨⟨_, _, _, rfl⟩, (((hT.setN (p := ⟨w.heap.size, 0, none⟩) (by simp) _).setN (p := ⟨w.heap.size, 1, none⟩) (by simp) _).setN (p := ⟨w.heap.size, 2, none⟩) (by simp) _).setN (p := ⟨w.heap.size, 3, none⟩) (by simp) _,
          D, (((hS.far (p := ⟨w.heap.size, 0, none⟩) (by simp; omega) _).far (p := ⟨w.heap.size, 1, none⟩) (by simp; omega) _).far (p := ⟨w.heap.size, 2, none⟩) (by simp; omega) _).far (p := ⟨w.heap.size, 3, none⟩) (by simp; omega) _⟩

theorem word_any (b : Nat) (l : List UInt8) (ln : Nat) (w : World) (hl : l.length ≤ 1000000) (hne : l ≠ []) (hE : Env w) (hbE : EnvUnder b) (hb : Scan w b l (ln : Int)) :
    Calls Tryz.prog 83 #[.pointer (some ⟨b, 0, none⟩)] w (WordPost b ln w (wordL l)) := by
  cases l with
  | nil => exact absurd rfl hne
  | cons c r =>
    rw [wordL]
    by_cases h1 : c = 40
    · subst h1; rw [if_pos rfl]; exact word_open b r ln w hb
    · rw [if_neg h1]
      by_cases h2 : c = 41
      · subst h2; rw [if_pos rfl]; exact word_close b r ln w hb
      · rw [if_neg h2]
        by_cases h3 : c = 34
        · subst h3; rw [if_pos rfl]; exact word_text b r ln w (by simp at hl; omega) hb
        · rw [if_neg h3]
          cases hn : isNum ((c :: r).takeWhile part) with
          | false => exact word_name b c r ln w hl ⟨h1, h2, h3⟩ hn hb
          | true => exact word_num b c r ln w hl ⟨h1, h2, h3⟩ hn hE hbE hb
end Go.Proofs.YtimdkdengdhglaaGreatDoor
