/- The contract of the scanner's word: numbers and names, and the whole. -/
import Derived.Test.YtimdkdengdhglaaGreatDoorLexD
namespace Go.Proofs.YtimdkdengdhglaaGreatDoor
open Go Go.RowKit

set_option maxHeartbeats 1000000 in
theorem clone_any (s : ByteArray) (w : World) (hlim : s.size ≤ 281474976710656) :
    Calls Tryz.prog 147 #[.string s] w fun e w' => e = .returned (.string s) ∧ Below w.heap.size w w' := by
  go_enter Tryz.func147, Tryz.ntmps147
  go_wp2_with (go_at_call 178; refine (Tryz.stringslite_Clone s _ hlim).mono ?_; rintro e w1 ⟨rfl, hb⟩)
  go_ret
  exact ⟨rfl, hb⟩

set_option maxHeartbeats 1000000 in
set_option maxRecDepth 100000 in
theorem word_name (b : Nat) (c : UInt8) (r : List UInt8) (ln : Nat) (w : World) (hl : (c :: r).length ≤ 1000000) (hc : c ≠ 40 ∧ c ≠ 41 ∧ c ≠ 34) (hnum : isNum ((c :: r).takeWhile part) = false) (hb : Scan w b (c :: r) (ln : Int)) :
    Calls Tryz.prog 83 #[.pointer (some ⟨b, 0, none⟩)] w (WordPost b ln w (restL (c :: r))) := by
  have hbw := hb.lt
  have c0 := hb.c0
  have c1 := hb.c1
  have hsz : 1 ≤ (bs (c :: r)).size := by rw [bs_size]; simp
  have hget : ∀ h : 0 < (bs (c :: r)).size, (bs (c :: r))[0]'h = c := fun h => by rw [bs_get]; rfl
  have t0 : ((c.toNat : Int) == 40) = false := by rw [beq_eq_false_iff_ne]; intro h; apply hc.1; apply UInt8.toNat_inj.1; simp; omega
  have t1 : ((c.toNat : Int) == 41) = false := by rw [beq_eq_false_iff_ne]; intro h; apply hc.2.1; apply UInt8.toNat_inj.1; simp; omega
  have t2 : ((c.toNat : Int) == 34) = false := by rw [beq_eq_false_iff_ne]; intro h; apply hc.2.2; apply UInt8.toNat_inj.1; simp; omega
  have cE := fun o o' => eat_word1 b (c :: r) ln ((w.alloc o).alloc o') hl ((hb.alloc o).alloc o')
  have hR : Hid (restL (c :: r) = if (c :: r).takeWhile part ≠ [] ∧ ((c :: r).takeWhile part).length ≤ 4096 then some (1, (c :: r).takeWhile part, 0, (c :: r).dropWhile part) else none) := by
    show _ = _; unfold restL; simp [hnum]
  have hslen := tw_le part (c :: r)
  have ht := fun o o' => (((Touch.refl (fun k => k = b) w).set (p := ⟨b, 0, none⟩) rfl (.string (bs ((c :: r).dropWhile part)))).alloc o).alloc o'
  have hs := fun o o' => ((hb.set0 ((c :: r).dropWhile part)).alloc o).alloc o'
  have hN := fun o o' => two_new (w.setCell ⟨b, 0, none⟩ (.string (bs ((c :: r).dropWhile part)))) o o'
  have HN := Lib.hid (And.intro ht (And.intro hs hN))
  have cT : ∀ W, Calls Tryz.prog 144 #[.string (bs ((c :: r).takeWhile part)), .string ⟨#[45]⟩] W fun e w' => e = .returned (.string (bs (Lib.trimPrefix ((c :: r).takeWhile part) [45]))) ∧ w' = W := fun W => Tryz.strings_TrimPrefix _ _ W
  have hT : Hid (isNum ((c :: r).takeWhile part) = match Lib.trimPrefix ((c :: r).takeWhile part) [45] with | [] => false | c :: _ => kindOf c == 2) := rfl
  replace hT : Hid ((match Lib.trimPrefix ((c :: r).takeWhile part) [45] with | [] => false | c :: _ => kindOf c == 2) = false) := by
    show _ = _; rw [← hT.out, hnum]
  clear hb ht hs hN hc hnum
  have hlim : ((c :: r).takeWhile part).length ≤ 1000000 := by omega
  clear hslen hl
  generalize (c :: r).takeWhile part = s at *
  generalize (c :: r).dropWhile part = D at *
  generalize bs (c :: r) = S at *
  generalize Lib.trimPrefix s [45] = T at *
  have hsc := bs_size s
  have cC := clone_any (bs s)
  cases T with
  | nil =>
    replace cT : ∀ W, Calls Tryz.prog 144 #[.string (bs s), .string ⟨#[45]⟩] W fun e w' => e = .returned (.string ⟨#[]⟩) ∧ w' = W := cT
    go_enter Tryz.func83, Tryz.ntmps83
    go_wp2_with (first | (go_at_call 137; refine (cE _ _).mono ?_; rintro e w1 ⟨rfl, rfl⟩) | (go_at_call 144; refine (cT _).mono ?_; rintro e w1 ⟨rfl, rfl⟩) | (go_at_call 147; refine (cC _ (by omega)).mono ?_))
    intro e W1 h1
    have hE := h1.1
    have hb1 := h1.2
    subst hE
    simp only [World.size_alloc, World.size_setCell] at hb1
    obtain ⟨ht, hs, hN⟩ := HN.out
    have ht1 := (ht _ _).below hb1 (fun k hk _ => by omega)
    have hs1 := (hs _ _).below hb1 (by omega)
    have hN := hN (.cells #[.int .u8 0, .string ⟨#[]⟩, .int .i64 0, .int .i64 0] 86) (.cells #[.int .u8 0, .string ⟨#[]⟩, .int .i64 0, .int .i64 ln] 86)
    simp only [World.size_alloc, World.size_setCell] at hN
    have n0 := (hb1.block w.heap.size (by omega)).trans hN.1
    have n1 := (hb1.block (w.heap.size + 1) (by omega)).trans hN.2
    obtain ⟨d0, d1, d2, d3, g0, g1, g2, g3⟩ := word_cells n0
    obtain ⟨k0, k1, k2, k3, l0, l1, l2, l3⟩ := word_cells n1
    have hT := Lib.hid ((((((ht1.setN (p := ⟨w.heap.size + 1, 0, none⟩) (by simp) (.int .u8 1)).setN (p := ⟨w.heap.size + 1, 1, none⟩) (by simp) (.string (bs s))).setN (p := ⟨w.heap.size, 0, none⟩) (by simp) (.int .u8 1)).setN (p := ⟨w.heap.size, 1, none⟩) (by simp) (.string (bs s))).setN (p := ⟨w.heap.size, 2, none⟩) (by simp) (.int .i64 0)).setN (p := ⟨w.heap.size, 3, none⟩) (by simp) (.int .i64 ln))
    have hS := Lib.hid ((((((hs1.far (p := ⟨w.heap.size + 1, 0, none⟩) (by simp; omega) (.int .u8 1)).far (p := ⟨w.heap.size + 1, 1, none⟩) (by simp; omega) (.string (bs s))).far (p := ⟨w.heap.size, 0, none⟩) (by simp; omega) (.int .u8 1)).far (p := ⟨w.heap.size, 1, none⟩) (by simp; omega) (.string (bs s))).far (p := ⟨w.heap.size, 2, none⟩) (by simp; omega) (.int .i64 0)).far (p := ⟨w.heap.size, 3, none⟩) (by simp; omega) (.int .i64 ln))
    have n0' := Lib.hid (blk_far (blk_far n0 (p := ⟨w.heap.size + 1, 0, none⟩) (by simp) (.int .u8 1)) (p := ⟨w.heap.size + 1, 1, none⟩) (by simp) (.string (bs s)))
    clear h1 hb1 ht hs hN HN n0 n1 cC ht1 hs1
    by_cases hs0 : s = []
    · have he : (bs s).toList.isEmpty = true := by rw [Lib.toList_data, bs_data, hs0]; rfl
      replace hs0 := Lib.hid hs0
      go_wp2
      refine word_end 1 (bs s) 0 false rfl rfl rfl n0'.out ?_
      rintro W' rfl
      rw [hR.out, if_neg (by rw [hs0.out]; simp)]
      exact ⟨⟨_, _, _, rfl⟩, hT.out, D, hS.out⟩
    · have he : (bs s).toList.isEmpty = false := by rw [Lib.toList_data, bs_data]; cases s with | nil => exact absurd rfl hs0 | cons => rfl
      replace hs0 := Lib.hid hs0
      by_cases h4 : s.length ≤ 4096
      · have h4' : decide ((s.length : Int) ≤ 4096) = true := by simp; omega
        go_wp2
        refine word_end 1 (bs s) 0 true rfl rfl rfl n0'.out ?_
        rintro W' rfl
        rw [hR.out, if_pos ⟨hs0.out, h4⟩]
        exact ⟨rfl, hS.out, hT.out⟩
      · have h4' : decide ((s.length : Int) ≤ 4096) = false := by simp; omega
        go_wp2
        refine word_end 1 (bs s) 0 false rfl rfl rfl n0'.out ?_
        rintro W' rfl
        rw [hR.out, if_neg (fun h => h4 h.2)]
        exact ⟨⟨_, _, _, rfl⟩, hT.out, D, hS.out⟩
  | cons d T =>
    have hTe : (bs (d :: T)).toList.isEmpty = false := by rw [Lib.toList_data]; rfl
    have hTg : ∀ h : 0 < (bs (d :: T)).size, (bs (d :: T))[0]'h = d := fun h => by rw [bs_get]; rfl
    have hTz : 1 ≤ (bs (d :: T)).size := by rw [bs_size]; simp
    have hk : ((kindOf d : Int) == 2) = false := by
      have := hT.out
      simp only [beq_eq_false_iff_ne] at this
      rw [beq_eq_false_iff_ne]; omega
    generalize bs (d :: T) = U at *
    clear hT
    go_enter Tryz.func83, Tryz.ntmps83
    go_wp2_with (first | (go_at_call 137; refine (cE _ _).mono ?_; rintro e w1 ⟨rfl, rfl⟩) | (go_at_call 144; refine (cT _).mono ?_; rintro e w1 ⟨rfl, rfl⟩) | (go_at_call 147; refine (cC _ (by omega)).mono ?_) | (go_at_call 139; refine (of_any d _).mono ?_; rintro e w1 ⟨rfl, rfl⟩))
    intro e W1 h1
    have hE := h1.1
    have hb1 := h1.2
    subst hE
    simp only [World.size_alloc, World.size_setCell] at hb1
    obtain ⟨ht, hs, hN⟩ := HN.out
    have ht1 := (ht _ _).below hb1 (fun k hk _ => by omega)
    have hs1 := (hs _ _).below hb1 (by omega)
    have hN := hN (.cells #[.int .u8 0, .string ⟨#[]⟩, .int .i64 0, .int .i64 0] 86) (.cells #[.int .u8 0, .string ⟨#[]⟩, .int .i64 0, .int .i64 ln] 86)
    simp only [World.size_alloc, World.size_setCell] at hN
    have n0 := (hb1.block w.heap.size (by omega)).trans hN.1
    have n1 := (hb1.block (w.heap.size + 1) (by omega)).trans hN.2
    obtain ⟨d0, d1, d2, d3, g0, g1, g2, g3⟩ := word_cells n0
    obtain ⟨k0, k1, k2, k3, l0, l1, l2, l3⟩ := word_cells n1
    have hT := Lib.hid ((((((ht1.setN (p := ⟨w.heap.size + 1, 0, none⟩) (by simp) (.int .u8 1)).setN (p := ⟨w.heap.size + 1, 1, none⟩) (by simp) (.string (bs s))).setN (p := ⟨w.heap.size, 0, none⟩) (by simp) (.int .u8 1)).setN (p := ⟨w.heap.size, 1, none⟩) (by simp) (.string (bs s))).setN (p := ⟨w.heap.size, 2, none⟩) (by simp) (.int .i64 0)).setN (p := ⟨w.heap.size, 3, none⟩) (by simp) (.int .i64 ln))
    have hS := Lib.hid ((((((hs1.far (p := ⟨w.heap.size + 1, 0, none⟩) (by simp; omega) (.int .u8 1)).far (p := ⟨w.heap.size + 1, 1, none⟩) (by simp; omega) (.string (bs s))).far (p := ⟨w.heap.size, 0, none⟩) (by simp; omega) (.int .u8 1)).far (p := ⟨w.heap.size, 1, none⟩) (by simp; omega) (.string (bs s))).far (p := ⟨w.heap.size, 2, none⟩) (by simp; omega) (.int .i64 0)).far (p := ⟨w.heap.size, 3, none⟩) (by simp; omega) (.int .i64 ln))
    have n0' := Lib.hid (blk_far (blk_far n0 (p := ⟨w.heap.size + 1, 0, none⟩) (by simp) (.int .u8 1)) (p := ⟨w.heap.size + 1, 1, none⟩) (by simp) (.string (bs s)))
    clear h1 hb1 ht hs hN HN n0 n1 cC ht1 hs1
    by_cases hs0 : s = []
    · have he : (bs s).toList.isEmpty = true := by rw [Lib.toList_data, bs_data, hs0]; rfl
      replace hs0 := Lib.hid hs0
      go_wp2
      refine word_end 1 (bs s) 0 false rfl rfl rfl n0'.out ?_
      rintro W' rfl
      rw [hR.out, if_neg (by rw [hs0.out]; simp)]
      exact ⟨⟨_, _, _, rfl⟩, hT.out, D, hS.out⟩
    · have he : (bs s).toList.isEmpty = false := by rw [Lib.toList_data, bs_data]; cases s with | nil => exact absurd rfl hs0 | cons => rfl
      replace hs0 := Lib.hid hs0
      by_cases h4 : s.length ≤ 4096
      · have h4' : decide ((s.length : Int) ≤ 4096) = true := by simp; omega
        go_wp2
        refine word_end 1 (bs s) 0 true rfl rfl rfl n0'.out ?_
        rintro W' rfl
        rw [hR.out, if_pos ⟨hs0.out, h4⟩]
        exact ⟨rfl, hS.out, hT.out⟩
      · have h4' : decide ((s.length : Int) ≤ 4096) = false := by simp; omega
        go_wp2
        refine word_end 1 (bs s) 0 false rfl rfl rfl n0'.out ?_
        rintro W' rfl
        rw [hR.out, if_neg (fun h => h4 h.2)]
        exact ⟨⟨_, _, _, rfl⟩, hT.out, D, hS.out⟩
end Go.Proofs.YtimdkdengdhglaaGreatDoor
