/- The walk of ShowTexts. -/
import Derived.Test.YtehcbicngbibgaaGreatDoorZGq
import Derived.Test.YtehcbicngbibgaaGreatDoorZBr
import Derived.Test.YtehcbicngbibgaaGreatDoorZRo
namespace Go.Proofs.YtehcbicngbibgaaGreatDoor
open Go Go.RowKit
theorem own_nls {w : World} {base n c : Nat} {m : Mode} {mk : Nat → List Value} {L : List Nd} {a : Option Addr} {R : List Row} (h : Own w base m mk (.lst 53 5 (L.map Nd.tr)) [.slice a n c] R) : NLs w w.heap.size L a n := by
  obtain ⟨ao, cap, e, hl⟩ := h.at.lst_inv
  simp at e
  obtain ⟨rfl, rfl, rfl⟩ := e
  rw [List.length_map] at hl
  exact hl
set_option maxHeartbeats 2000000 in
set_option maxRecDepth 100000 in
theorem beyond_any (g x : Nat) (hx : x ≤ 1048576) (w : World) (h : w.cell? ⟨g, 0, none⟩ = some (.int .i64 (x : Nat))) :
    Calls Tryz.prog 4 #[.slice (some ⟨g, 0, none⟩) 1 1] w fun e w' => e = .returned (.bool false) ∧ w' = w := by
  have hx2 : ¬ (1048576 : Int) < (x : Int) := by omega
  go_enter Tryz.func4, Tryz.ntmps4
  go_wp2_with fail
  go_loopw [3, 4] (fun s i wr => ∃ k : Nat, k ≤ 1 ∧ i = .int .i64 (k : Nat) ∧ s = .int .i64 (if k = 0 then 0 else (x : Int)) ∧ wr = w) (fun _ i _ => 1 - (intOf i).toNat)
  case atStart => exact ⟨0, by omega, by first | rfl | trivial, by first | rfl | trivial, by first | rfl | trivial⟩
  case round =>
    obtain ⟨k, hk, rfl, rfl, rfl⟩ := hrel
    rcases (by omega : k = 0 ∨ k = 1) with rfl | rfl
    · simp only [if_true]
      go_wp2_with fail
      go_roundw
      case rel => exact ⟨1, by omega, by go_num, by first | trivial | simp, by first | rfl | trivial⟩
      case measure => simp [intOf]
    · go_wp2_with fail
      go_ret
      first | exact ⟨rfl, rfl⟩ | exact ⟨rfl, trivial⟩ | exact rfl
theorem sets17 {w : World} {g : Nat} {t : TypeId} {a0 a1 a2 a3 a4 a5 a6 a7 a8 a9 a10 a11 a12 a13 a14 a15 a16 : Value} (h : w.heap[g]? = some (.cells #[a0, a1, a2, a3, a4, a5, a6, a7, a8, a9, a10, a11, a12, a13, a14, a15, a16] t (0, 0))) (b0 b1 b2 b3 b4 b5 b6 b7 b8 b9 b10 b11 b12 b13 b14 b15 b16 : Value) :
    ((((((((((((((((((w.setCell ⟨g, 0, none⟩ b0).setCell ⟨g, 1, none⟩ b1).setCell ⟨g, 2, none⟩ b2).setCell ⟨g, 3, none⟩ b3).setCell ⟨g, 4, none⟩ b4).setCell ⟨g, 5, none⟩ b5).setCell ⟨g, 6, none⟩ b6).setCell ⟨g, 7, none⟩ b7).setCell ⟨g, 8, none⟩ b8).setCell ⟨g, 9, none⟩ b9).setCell ⟨g, 10, none⟩ b10).setCell ⟨g, 11, none⟩ b11).setCell ⟨g, 12, none⟩ b12).setCell ⟨g, 13, none⟩ b13).setCell ⟨g, 14, none⟩ b14).setCell ⟨g, 15, none⟩ b15).setCell ⟨g, 16, none⟩ b16)).heap[g]? = some (.cells #[b0, b1, b2, b3, b4, b5, b6, b7, b8, b9, b10, b11, b12, b13, b14, b15, b16] t (0, 0)) := by
  have h0 := blk_set h 0 b0
  have h1 := blk_set h0 1 b1
  have h2 := blk_set h1 2 b2
  have h3 := blk_set h2 3 b3
  have h4 := blk_set h3 4 b4
  have h5 := blk_set h4 5 b5
  have h6 := blk_set h5 6 b6
  have h7 := blk_set h6 7 b7
  have h8 := blk_set h7 8 b8
  have h9 := blk_set h8 9 b9
  have h10 := blk_set h9 10 b10
  have h11 := blk_set h10 11 b11
  have h12 := blk_set h11 12 b12
  have h13 := blk_set h12 13 b13
  have h14 := blk_set h13 14 b14
  have h15 := blk_set h14 15 b15
  have h16 := blk_set h15 16 b16
  simpa using h16
theorem book_new (W : World) : BookSt (W.alloc (.cells #[.int .i64 0, .slice none 0 0, .slice none 0 0, .slice none 0 0, .slice none 0 0, .slice none 0 0, .slice none 0 0, .slice none 0 0, .slice none 0 0, .slice none 0 0, .slice none 0 0, .slice none 0 0, .slice none 0 0, .slice none 0 0, .slice none 0 0, .slice none 0 0, .slice none 0 0] 45)) W.heap.size 0 (fun _ => .slice none 0 0) := heap_alloc_new W _
theorem reg_new (W : World) : Reg W.heap.size 0 (fun _ => .slice none 0 0) [] [] [] W (W.alloc (.cells #[.int .i64 0, .slice none 0 0, .slice none 0 0, .slice none 0 0, .slice none 0 0, .slice none 0 0, .slice none 0 0, .slice none 0 0, .slice none 0 0, .slice none 0 0, .slice none 0 0, .slice none 0 0, .slice none 0 0, .slice none 0 0, .slice none 0 0, .slice none 0 0, .slice none 0 0] 45)) :=
  ⟨book_new W, (Below.refl _ W).alloc (Nat.le_refl _) _, Nat.le_refl _, rfl, fun _ _ _ _ _ _ => rfl, World.ownsRow_nil _ _ _ _, World.ownsRow_nil _ _ _ _, World.ownsRow_nil _ _ _ _, fun b h => (by cases h), fun b h => (by cases h), fun b h => (by cases h)⟩
set_option maxHeartbeats 8000000 in
set_option maxRecDepth 100000 in
theorem showTexts_main (L : List Nd) (a : Option Addr) (n c : Nat) (w : World) (hE : Env w) (hw : L.length + wts (L.map Nd.tr) ≤ 1048576) (h : NLs w w.heap.size L a n) :
    Calls Tryz.prog 3 #[.slice a n c] w fun e w' => e = .returned (.bool true) ∧ Below w.heap.size w w' := by
  have hlen := text_len h (by omega)
  have hnl : n = L.length := by have := h.1; rwa [List.length_map] at this
  have hbw := bare_wts L
  have hnl1 := nlNs L
  have hnl2 := nlNs (L.map Nd.bare)
  have cZ := Lib.hid (sizeNodes_any L (fun v _ => sizeN_any v) a n c w hw h)
  obtain ⟨N, hN⟩ : ∃ N, N = L.length + wts (L.map Nd.tr) := ⟨_, rfl⟩
  rw [← hN] at cZ
  have hN9 : N ≤ 1048576 := by omega
  obtain ⟨z, hz⟩ : ∃ z, z = textB L := ⟨_, rfl⟩
  have hz1 : (z.toList == z.toList) = true := by simp
  have hz2 : (z.toList != z.toList) = false := by simp
  replace hN := Lib.hid hN
  replace hz := Lib.hid hz
  replace h := Lib.hid h
  replace hE := Lib.hid hE
  replace hw := Lib.hid hw
  replace hlen := Lib.hid hlen
  replace hnl := Lib.hid hnl
  replace hbw := Lib.hid hbw
  replace hnl1 := Lib.hid hnl1
  replace hnl2 := Lib.hid hnl2
  go_enter Tryz.func3, Tryz.ntmps3
  go_wp2_with (go_at_call 5; refine cZ.out.mono ?_)
  first | rintro e W1 rfl hb1 | rintro e W1 ⟨rfl, hb1⟩
  obtain ⟨S1, hS1⟩ : ∃ S1, S1 = W1.alloc (.cells #[.int .i64 (N : Nat)] 3) := ⟨_, rfl⟩
  have hbS1 : Below W1.heap.size W1 S1 := by rw [hS1]; exact (Below.refl _ _).alloc (Nat.le_refl _) _
  have hcS1 : S1.cell? ⟨W1.heap.size, 0, none⟩ = some (.int .i64 (N : Nat)) := by
    have : S1.heap[W1.heap.size]? = some (.cells #[.int .i64 (N : Nat)] 3 (0, 0)) := by rw [hS1]; exact heap_alloc_new W1 _
    simp [World.cell?, this]
  have cB := Lib.hid (beyond_any W1.heap.size N hN9 S1 hcS1)
  have hl1 : Hid (Below w.heap.size w S1) := hb1.trans (hbS1.mono hb1.size)
  have cT := twinNodes_any L (fun v _ => twinN_any v) a n c S1 hw.out (h.out.later hl1.out)
  replace cT := Lib.hid cT
  replace hS1 := Lib.hid hS1
  clear hb1 hbS1 hcS1
  go_wp2_with (first | (rw [← hS1.out]) | (go_at_call 4; refine cB.out.mono ?_))
  first | rintro e W2 rfl hw2 | rintro e W2 ⟨rfl, hw2⟩
  obtain rfl : S1 = W2 := hw2.symm
  go_wp2_with (go_at_call 6; refine cT.out.mono ?_)
  rintro e Wt ⟨gt, ct, Rt, rfl, ot, pt, bt⟩
  have hlt : Hid (Below w.heap.size w Wt) := hl1.out.trans (bt.mono hl1.out.size)
  have cA := Lib.hid (bareL_any L (some ⟨gt, 0, none⟩) n ct Wt hw.out (own_nls ot))
  replace ot := Lib.hid ot
  replace pt := Lib.hid pt
  replace bt := Lib.hid bt
  go_wp2_with (go_at_call 7; refine cA.out.mono ?_)
  rintro e Wa ⟨aa, ca, Ra, rfl, oa, pa, ba⟩
  have hla : Hid (Below w.heap.size w Wa) := hlt.out.trans (ba.mono hlt.out.size)
  have otA := Lib.hid (ot.out.later ba)
  have cA2 := Lib.hid (bareL_any L (some ⟨gt, 0, none⟩) n ct Wa hw.out (own_nls otA.out))
  replace oa := Lib.hid oa
  replace pa := Lib.hid pa
  replace ba := Lib.hid ba
  go_wp2_with (go_at_call 7; refine cA2.out.mono ?_)
  rintro e Wb ⟨ab, cb, Rb, rfl, ob, pb, bb⟩
  have hlb : Hid (Below w.heap.size w Wb) := hla.out.trans (bb.mono hla.out.size)
  have otB := Lib.hid (otA.out.later bb)
  have oaB := Lib.hid (oa.out.later bb)
  have cR := Lib.hid (refL_any L w.heap.size a n c Wb hlb.out.size hw.out (h.out.kept hlb.out))
  replace ob := Lib.hid ob
  replace pb := Lib.hid pb
  replace bb := Lib.hid bb
  go_wp2_with (go_at_call 8; refine cR.out.mono ?_)
  rintro e Wr ⟨ar, cr, Rr, rfl, orr, _, br⟩
  have hlr : Hid (Below w.heap.size w Wr) := hlb.out.trans (br.mono hlb.out.size)
  have otR := Lib.hid (otB.out.later br)
  have oaR := Lib.hid (oaB.out.later br)
  have obR := Lib.hid (ob.out.later br)
  have cX := showText_any L (some ⟨gt, 0, none⟩) n ct Wr (hE.out.kept hlr.out) hlen.out (own_nls otR.out)
  rw [← hz.out] at cX
  replace cX := Lib.hid cX
  have nr := Lib.hid (own_nls orr)
  replace br := Lib.hid br
  clear orr
  go_wp2_with (go_at_call 9; refine cX.out.mono ?_)
  first | rintro e W5 rfl b5 | rintro e W5 ⟨rfl, b5⟩
  have hl5 : Hid (Below w.heap.size w W5) := hlr.out.trans (b5.mono hlr.out.size)
  have cY := refText_any L a n c W5 (fun _ => hlen.out) (h.out.later hl5.out)
  rw [← hz.out] at cY
  replace cY := Lib.hid cY
  replace b5 := Lib.hid b5
  go_wp2_with (go_at_call 10; refine cY.out.mono ?_)
  first | rintro e W6 rfl b6 | rintro e W6 ⟨rfl, b6⟩
  have b56 : Below Wr.heap.size Wr W6 := b5.out.trans (b6.mono b5.out.size)
  have cS1 := Lib.hid (sameNodes_any (L.map Nd.bare) (fun v _ => sameN_any v) aa ar n n ca cr W6 ((own_nls oaR.out).later b56) (nr.out.later b56))
  replace b56 := Lib.hid b56
  replace b6 := Lib.hid b6
  go_wp2_with (go_at_call 11; refine cS1.out.mono ?_)
  first | rintro e W7 rfl b7 | rintro e W7 ⟨rfl, b7⟩
  have b57 : Below Wr.heap.size Wr W7 := b56.out.trans (b7.mono b56.out.size)
  have cS2 := Lib.hid (sameNodes_any (L.map Nd.bare) (fun v _ => sameN_any v) ab ar n n cb cr W7 ((own_nls obR.out).later b57) (nr.out.later b57))
  replace b57 := Lib.hid b57
  replace b7 := Lib.hid b7
  go_wp2_with (go_at_call 11; refine cS2.out.mono ?_)
  first | rintro e W8 rfl b8 | rintro e W8 ⟨rfl, b8⟩
  have b58 : Below Wr.heap.size Wr W8 := b57.out.trans (b8.mono b57.out.size)
  have hl8 : Hid (Below w.heap.size w W8) := hlr.out.trans (b58.mono hlr.out.size)
  have cL := Lib.hid (leftNodes_any L (fun v _ => leftN_any v) (some ⟨gt, 0, none⟩) a n n ct c S1.heap.size Rt W8 (otR.out.later b58) (h.out.later hl8.out))
  replace b58 := Lib.hid b58
  replace b8 := Lib.hid b8
  go_wp2_with (go_at_call 12; refine cL.out.mono ?_)
  first | rintro e W9 rfl b9 | rintro e W9 ⟨rfl, b9⟩
  have b59 : Below Wr.heap.size Wr W9 := b58.out.trans (b9.mono b58.out.size)
  have hl9 : Hid (Below w.heap.size w W9) := hl8.out.trans (b9.mono hl8.out.size)
  have ot9 := Lib.hid (otR.out.later b59)
  have oa9 := Lib.hid (oaR.out.later b59)
  have ob9 := Lib.hid (obR.out.later b59)
  obtain ⟨S2, hS2⟩ : ∃ S2, S2 = W9.alloc (.cells #[.int .i64 0, .slice none 0 0, .slice none 0 0, .slice none 0 0, .slice none 0 0, .slice none 0 0, .slice none 0 0, .slice none 0 0, .slice none 0 0, .slice none 0 0, .slice none 0 0, .slice none 0 0, .slice none 0 0, .slice none 0 0, .slice none 0 0, .slice none 0 0, .slice none 0 0] 45) := ⟨_, rfl⟩
  have hrS2 : S2.heap[W9.heap.size]? = some (.cells #[.int .i64 0, .slice none 0 0, .slice none 0 0, .slice none 0 0, .slice none 0 0, .slice none 0 0, .slice none 0 0, .slice none 0 0, .slice none 0 0, .slice none 0 0, .slice none 0 0, .slice none 0 0, .slice none 0 0, .slice none 0 0, .slice none 0 0, .slice none 0 0, .slice none 0 0] 45 (0, 0)) := by rw [hS2]; exact heap_alloc_new W9 _
  have hbS2a : Below W9.heap.size W9 S2 := by rw [hS2]; exact (Below.refl _ _).alloc (Nat.le_refl _) _
  have k0 : S2.cell? ⟨W9.heap.size, 0, none⟩ = some (.int .i64 0) := by simp [World.cell?, hrS2]
  have k1 : S2.cell? ⟨W9.heap.size, 1, none⟩ = some (.slice none 0 0) := by simp [World.cell?, hrS2]
  have k2 : S2.cell? ⟨W9.heap.size, 2, none⟩ = some (.slice none 0 0) := by simp [World.cell?, hrS2]
  have k3 : S2.cell? ⟨W9.heap.size, 3, none⟩ = some (.slice none 0 0) := by simp [World.cell?, hrS2]
  have k4 : S2.cell? ⟨W9.heap.size, 4, none⟩ = some (.slice none 0 0) := by simp [World.cell?, hrS2]
  have k5 : S2.cell? ⟨W9.heap.size, 5, none⟩ = some (.slice none 0 0) := by simp [World.cell?, hrS2]
  have k6 : S2.cell? ⟨W9.heap.size, 6, none⟩ = some (.slice none 0 0) := by simp [World.cell?, hrS2]
  have k7 : S2.cell? ⟨W9.heap.size, 7, none⟩ = some (.slice none 0 0) := by simp [World.cell?, hrS2]
  have k8 : S2.cell? ⟨W9.heap.size, 8, none⟩ = some (.slice none 0 0) := by simp [World.cell?, hrS2]
  have k9 : S2.cell? ⟨W9.heap.size, 9, none⟩ = some (.slice none 0 0) := by simp [World.cell?, hrS2]
  have k10 : S2.cell? ⟨W9.heap.size, 10, none⟩ = some (.slice none 0 0) := by simp [World.cell?, hrS2]
  have k11 : S2.cell? ⟨W9.heap.size, 11, none⟩ = some (.slice none 0 0) := by simp [World.cell?, hrS2]
  have k12 : S2.cell? ⟨W9.heap.size, 12, none⟩ = some (.slice none 0 0) := by simp [World.cell?, hrS2]
  have k13 : S2.cell? ⟨W9.heap.size, 13, none⟩ = some (.slice none 0 0) := by simp [World.cell?, hrS2]
  have k14 : S2.cell? ⟨W9.heap.size, 14, none⟩ = some (.slice none 0 0) := by simp [World.cell?, hrS2]
  have k15 : S2.cell? ⟨W9.heap.size, 15, none⟩ = some (.slice none 0 0) := by simp [World.cell?, hrS2]
  have k16 : S2.cell? ⟨W9.heap.size, 16, none⟩ = some (.slice none 0 0) := by simp [World.cell?, hrS2]
  have j0 : S2.frozen? ⟨W9.heap.size, 0, none⟩ = false := by simp [World.frozen?, hrS2]
  have j1 : S2.frozen? ⟨W9.heap.size, 1, none⟩ = false := by simp [World.frozen?, hrS2]
  have j2 : S2.frozen? ⟨W9.heap.size, 2, none⟩ = false := by simp [World.frozen?, hrS2]
  have j3 : S2.frozen? ⟨W9.heap.size, 3, none⟩ = false := by simp [World.frozen?, hrS2]
  have j4 : S2.frozen? ⟨W9.heap.size, 4, none⟩ = false := by simp [World.frozen?, hrS2]
  have j5 : S2.frozen? ⟨W9.heap.size, 5, none⟩ = false := by simp [World.frozen?, hrS2]
  have j6 : S2.frozen? ⟨W9.heap.size, 6, none⟩ = false := by simp [World.frozen?, hrS2]
  have j7 : S2.frozen? ⟨W9.heap.size, 7, none⟩ = false := by simp [World.frozen?, hrS2]
  have j8 : S2.frozen? ⟨W9.heap.size, 8, none⟩ = false := by simp [World.frozen?, hrS2]
  have j9 : S2.frozen? ⟨W9.heap.size, 9, none⟩ = false := by simp [World.frozen?, hrS2]
  have j10 : S2.frozen? ⟨W9.heap.size, 10, none⟩ = false := by simp [World.frozen?, hrS2]
  have j11 : S2.frozen? ⟨W9.heap.size, 11, none⟩ = false := by simp [World.frozen?, hrS2]
  have j12 : S2.frozen? ⟨W9.heap.size, 12, none⟩ = false := by simp [World.frozen?, hrS2]
  have j13 : S2.frozen? ⟨W9.heap.size, 13, none⟩ = false := by simp [World.frozen?, hrS2]
  have j14 : S2.frozen? ⟨W9.heap.size, 14, none⟩ = false := by simp [World.frozen?, hrS2]
  have j15 : S2.frozen? ⟨W9.heap.size, 15, none⟩ = false := by simp [World.frozen?, hrS2]
  have j16 : S2.frozen? ⟨W9.heap.size, 16, none⟩ = false := by simp [World.frozen?, hrS2]
  obtain ⟨S3, hS3⟩ : ∃ S3, S3 = (((((((((((((((((S2.setCell ⟨W9.heap.size, 0, none⟩ (.int .i64 0)).setCell ⟨W9.heap.size, 1, none⟩ (.slice none 0 0)).setCell ⟨W9.heap.size, 2, none⟩ (.slice none 0 0)).setCell ⟨W9.heap.size, 3, none⟩ (.slice none 0 0)).setCell ⟨W9.heap.size, 4, none⟩ (.slice none 0 0)).setCell ⟨W9.heap.size, 5, none⟩ (.slice none 0 0)).setCell ⟨W9.heap.size, 6, none⟩ (.slice none 0 0)).setCell ⟨W9.heap.size, 7, none⟩ (.slice none 0 0)).setCell ⟨W9.heap.size, 8, none⟩ (.slice none 0 0)).setCell ⟨W9.heap.size, 9, none⟩ (.slice none 0 0)).setCell ⟨W9.heap.size, 10, none⟩ (.slice none 0 0)).setCell ⟨W9.heap.size, 11, none⟩ (.slice none 0 0)).setCell ⟨W9.heap.size, 12, none⟩ (.slice none 0 0)).setCell ⟨W9.heap.size, 13, none⟩ (.slice none 0 0)).setCell ⟨W9.heap.size, 14, none⟩ (.slice none 0 0)).setCell ⟨W9.heap.size, 15, none⟩ (.slice none 0 0)).setCell ⟨W9.heap.size, 16, none⟩ (.slice none 0 0)) := ⟨_, rfl⟩
  have hR0 : Reg W9.heap.size 0 (fun _ => .slice none 0 0) [] [] [] W9 S3 := by
    refine ⟨?_, ?_, Nat.le_refl _, rfl, fun _ _ _ _ _ _ => rfl, World.ownsRow_nil _ _ _ _, World.ownsRow_nil _ _ _ _, World.ownsRow_nil _ _ _ _, fun b h => (by cases h), fun b h => (by cases h), fun b h => (by cases h)⟩
    · show S3.heap[W9.heap.size]? = _
      rw [hS3]; exact sets17 hrS2 (.int .i64 0) (.slice none 0 0) (.slice none 0 0) (.slice none 0 0) (.slice none 0 0) (.slice none 0 0) (.slice none 0 0) (.slice none 0 0) (.slice none 0 0) (.slice none 0 0) (.slice none 0 0) (.slice none 0 0) (.slice none 0 0) (.slice none 0 0) (.slice none 0 0) (.slice none 0 0) (.slice none 0 0)
    · rw [hS3]; exact (((((((((((((((((hbS2a.setCell (p := ⟨W9.heap.size, 0, none⟩) (Nat.le_refl _) (.int .i64 0)).setCell (p := ⟨W9.heap.size, 1, none⟩) (Nat.le_refl _) (.slice none 0 0)).setCell (p := ⟨W9.heap.size, 2, none⟩) (Nat.le_refl _) (.slice none 0 0)).setCell (p := ⟨W9.heap.size, 3, none⟩) (Nat.le_refl _) (.slice none 0 0)).setCell (p := ⟨W9.heap.size, 4, none⟩) (Nat.le_refl _) (.slice none 0 0)).setCell (p := ⟨W9.heap.size, 5, none⟩) (Nat.le_refl _) (.slice none 0 0)).setCell (p := ⟨W9.heap.size, 6, none⟩) (Nat.le_refl _) (.slice none 0 0)).setCell (p := ⟨W9.heap.size, 7, none⟩) (Nat.le_refl _) (.slice none 0 0)).setCell (p := ⟨W9.heap.size, 8, none⟩) (Nat.le_refl _) (.slice none 0 0)).setCell (p := ⟨W9.heap.size, 9, none⟩) (Nat.le_refl _) (.slice none 0 0)).setCell (p := ⟨W9.heap.size, 10, none⟩) (Nat.le_refl _) (.slice none 0 0)).setCell (p := ⟨W9.heap.size, 11, none⟩) (Nat.le_refl _) (.slice none 0 0)).setCell (p := ⟨W9.heap.size, 12, none⟩) (Nat.le_refl _) (.slice none 0 0)).setCell (p := ⟨W9.heap.size, 13, none⟩) (Nat.le_refl _) (.slice none 0 0)).setCell (p := ⟨W9.heap.size, 14, none⟩) (Nat.le_refl _) (.slice none 0 0)).setCell (p := ⟨W9.heap.size, 15, none⟩) (Nat.le_refl _) (.slice none 0 0)).setCell (p := ⟨W9.heap.size, 16, none⟩) (Nat.le_refl _) (.slice none 0 0))
  clear hrS2 hbS2a
  have ct1 : Rt.length ≤ 2097153 := by
    have := own_nl ot9.out rfl
    rw [this, T.nl]; have := hnl1.out; have := hw.out; omega
  have ca1 : Ra.length ≤ 2097153 := by
    have := own_nl oa9.out rfl
    rw [this, T.nl]; have := hnl2.out; have := hbw.out; have := hw.out; omega
  have cb1 : Rb.length ≤ 2097153 := by
    have := own_nl ob9.out rfl
    rw [this, T.nl]; have := hnl2.out; have := hbw.out; have := hw.out; omega
  have hapA : Hid (Apart ((Rt ++ Ra) ++ Rb)) :=
    ((pt.out.append pa.out ot.out.within oa.out.within).append pb.out ((ot.out.within.mono (Nat.le_refl _) ba.out.size).append (oa.out.within.mono bt.out.size (Nat.le_refl _))) ob.out.within)
  have hrows : Hid (∀ r ∈ (Rt ++ Ra) ++ Rb, r.n ≤ 1073741824 ∧ ∃ xs, W9.ownsRow S1.heap.size r.E r.K r.v r.n xs) := fun r hr => by
    rcases List.mem_append.1 hr with hr | hr
    · rcases List.mem_append.1 hr with hr | hr
      · obtain ⟨xs, ho⟩ := ot9.out.rows r hr
        refine ⟨?_, xs, ho⟩
        have h1 := own_rn ot9.out r hr
        rw [T.wt, List.length_map] at h1
        have := hw.out; omega
      · obtain ⟨xs, ho⟩ := oa9.out.rows r hr
        refine ⟨?_, xs, own_base ho bt.out.size⟩
        have h1 := own_rn oa9.out r hr
        rw [T.wt, List.length_map, List.length_map] at h1
        have := hw.out; have := hbw.out; omega
    · obtain ⟨xs, ho⟩ := ob9.out.rows r hr
      refine ⟨?_, xs, own_base ho (Nat.le_trans bt.out.size ba.out.size)⟩
      have h1 := own_rn ob9.out r hr
      rw [T.wt, List.length_map, List.length_map] at h1
      have := hw.out; have := hbw.out; omega
  have hE9 : Hid (Env W9) := hE.out.kept hl9.out
  have hbe : Hid (EnvUnder S1.heap.size) := (hE.out.kept hl1.out).size
  have hbz : Hid (S1.heap.size ≤ W9.heap.size) := by
    show _ ≤ _
    have := bt.out.size; have := ba.out.size; have := bb.out.size; have := br.out.size; have := b59.size
    omega
  have hbS2 : Hid (Below w.heap.size w S3) := hl9.out.trans (hR0.low.mono hl9.out.size)
  have cN1 := Lib.hid (bNds_any L (some ⟨gt, 0, none⟩) n ct Rt S1.heap.size twinM mkS W9.heap.size 0 _ [] [] [] W9 S3 rfl ot9.out pt.out (by omega) hR0)
  replace b59 := Lib.hid b59
  replace b9 := Lib.hid b9
  replace hS2 := Lib.hid hS2
  replace hS3 := Lib.hid hS3
  replace hR0 := Lib.hid hR0
  go_wp2_with (first | (rw [← hS2.out]) | (rw [← hS3.out]) | (go_at_call 13; refine cN1.out.mono ?_))
  clear k0 j0 k1 j1 k2 j2 k3 j3 k4 j4 k5 j5 k6 j6 k7 j7 k8 j8 k9 j9 k10 j10 k11 j11 k12 j12 k13 j13 k14 j14 k15 j15 k16 j16
  rintro e V1 ⟨rfl, hs1, AV1, AF1, AN1, hR1, hA1, hX1⟩
  have cN2 := Lib.hid (bNds_any (L.map Nd.bare) aa n ca Ra Wt.heap.size ownM mkS W9.heap.size (0 + Rt.length) hs1 _ _ _ W9 V1 rfl oa9.out pa.out (by omega) hR1)
  replace hR1 := Lib.hid hR1
  replace hA1 := Lib.hid hA1
  replace hX1 := Lib.hid hX1
  go_wp2_with (go_at_call 13; refine cN2.out.mono ?_)
  rintro e V2 ⟨rfl, hs2, AV2, AF2, AN2, hR2, hA2, hX2⟩
  have cN3 := Lib.hid (bNds_any (L.map Nd.bare) ab n cb Rb Wa.heap.size ownM mkS W9.heap.size (0 + Rt.length + Ra.length) hs2 _ _ _ W9 V2 rfl ob9.out pb.out (by omega) hR2)
  replace hR2 := Lib.hid hR2
  replace hA2 := Lib.hid hA2
  replace hX2 := Lib.hid hX2
  go_wp2_with (go_at_call 13; refine cN3.out.mono ?_)
  rintro e V3 ⟨rfl, hs3, AV3, AF3, AN3, hR3, hA3, hX3⟩
  have hA12 := hA1.out.comb hA2.out (Nat.le_add_right _ _) hapA.out.left
  have hA := hA12.comb hA3 (Nat.le_add_right _ _) hapA.out
  simp only [List.nil_append] at hR3
  obtain ⟨hG, hAll⟩ := book_good hR3 hA (by omega) hE9.out hbe.out hbz.out hrows.out
  have cP := Lib.hid (apart_any hG hAll)
  have hlow3 : Hid (Below w.heap.size w V3) := hl9.out.trans (hR3.low.mono hl9.out.size)
  have hz3 := Lib.hid hG.bB
  replace hR3 := Lib.hid hR3
  clear hA12 hA hG hAll hA3 hX3
  go_wp2_with (go_at_call 14; refine cP.out.mono ?_)
  first | rintro e V4 rfl b4 | rintro e V4 ⟨rfl, b4⟩
  have hfin : Hid (Below w.heap.size w V4) := hlow3.out.trans (b4.mono hl1.out.size)
  clear b4
  go_wp2_with fail
  go_ret
  exact ⟨rfl, hfin.out⟩
end Go.Proofs.YtehcbicngbibgaaGreatDoor
