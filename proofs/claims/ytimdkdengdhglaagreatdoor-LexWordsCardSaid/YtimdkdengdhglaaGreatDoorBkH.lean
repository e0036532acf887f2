/- growWord at two lists. (By XBkH.gen.py.) -/
import Derived.Test.YtimdkdengdhglaaGreatDoorBkG
namespace Go.Proofs.YtimdkdengdhglaaGreatDoor
open Go Go.RowKit

theorem blk_ne {v : Value} {k : Nat} (h : ∀ b, v.ownBlock = some b → b < k) {j : Nat} (hj : k ≤ j) : some j ≠ v.ownBlock := fun e => by have := h j e.symm; omega
theorem Held.grown1 {S wk : World} {base B H cap : Nat} {v1 v2 u1 u2 : Value} {N : Nat} {L1 L2 : List Value} (h : Held S base B H cap v1 v2 u1 u2 N L1 L2) (gr : S.grownBy wk v1.ownBlock) (ho : wk.ownsRow base 86 4 v1 N L1) : Held wk base B H cap v1 v2 u1 u2 N L1 L2 :=
  ⟨h.book.of_block (gr.block B h.book.lt (blk_ne h.one_lt (Nat.le_refl B))), h.held.kept gr (.inr (show some H ≠ v1.ownBlock from blk_ne h.one_lt (by have := h.H_lt; omega))), ho,
    h.two.kept gr (by
      rcases hq : v2.ownBlock with _ | b
      · exact .inl rfl
      · exact .inr (fun e => h.ne b e.symm hq)), h.one_lt, h.two_lt, h.ne, h.low⟩
theorem Held.grown2 {S wk : World} {base B H cap : Nat} {v1 v2 u1 u2 : Value} {N : Nat} {L1 L2 : List Value} (h : Held S base B H cap v1 v2 u1 u2 N L1 L2) (gr : S.grownBy wk v2.ownBlock) (ho : wk.ownsRow base 86 4 v2 N L2) : Held wk base B H cap v1 v2 u1 u2 N L1 L2 :=
  ⟨h.book.of_block (gr.block B h.book.lt (blk_ne h.two_lt (Nat.le_refl B))), h.held.kept gr (.inr (show some H ≠ v2.ownBlock from blk_ne h.two_lt (by have := h.H_lt; omega))), 
    h.one.kept gr (by
      rcases hq : v1.ownBlock with _ | b
      · exact .inl rfl
      · exact .inr (fun e => h.ne b hq e.symm)), ho, h.one_lt, h.two_lt, h.ne, h.low⟩
theorem set_grown (w : World) (H j : Nat) (x : Value) : w.grownBy (w.setCell ⟨H, j, none⟩ x) (some H) := ⟨rfl, rfl, rfl, by simp, fun k _ hk => Below.heap_setCell w _ _ k (fun e => hk (by rw [e]))⟩
theorem row_ne {v : Value} {B H : Nat} (h : ∀ b, v.ownBlock = some b → b < B) (hH : B + 1 ≤ H) : v.ownBlock = none ∨ v.ownBlock ≠ some H := .inr (fun e => by have := h H e; omega)
theorem Held.long1 {W : World} {base B H cap : Nat} {v1 v2 u1 u2 : Value} {N : Nat} {L1 L2 : List Value} (h : Held W base B H cap v1 v2 u1 u2 N L1 L2) (x : Value) : Held (W.setCell ⟨H, 1, none⟩ x) base B H cap v1 v2 x u2 N L1 L2 :=
  have hH := h.H_lt.1
  ⟨h.book.of_block ((set_grown W H 1 x).block B h.book.lt (fun e => by simp at e; omega)), (h.held.stored 1 x).1, h.one.kept (set_grown W H 1 x) (row_ne h.one_lt hH), h.two.kept (set_grown W H 1 x) (row_ne h.two_lt hH), h.one_lt, h.two_lt, h.ne, h.low⟩
theorem Held.long2 {W : World} {base B H cap : Nat} {v1 v2 u1 u2 : Value} {N : Nat} {L1 L2 : List Value} (h : Held W base B H cap v1 v2 u1 u2 N L1 L2) (x : Value) : Held (W.setCell ⟨H, 4, none⟩ x) base B H cap v1 v2 u1 x N L1 L2 :=
  have hH := h.H_lt.1
  ⟨h.book.of_block ((set_grown W H 4 x).block B h.book.lt (fun e => by simp at e; omega)), (h.held.stored 4 x).1, h.one.kept (set_grown W H 4 x) (row_ne h.one_lt hH), h.two.kept (set_grown W H 4 x) (row_ne h.two_lt hH), h.one_lt, h.two_lt, h.ne, h.low⟩

/-- Where growWord stands behind j lists. -/
def GSt (W : World) (base B H cap : Nat) (v1 v2 : Value) (N : Nat) : Nat → Prop
  | 0 => Held W base B H cap v1 v2 (.slice none 0 0) (.slice none 0 0) N (mcells 1 N) (mcells 2 N)
  | 1 => ∃ u1, Held W base B H cap v1 v2 u1 (.slice none 0 0) N (mcells 1 N) (mcells 2 N) ∧ W.ownsRow base 86 4 u1 (N + 40) (mcells 1 (N + 40)) ∧ (∀ b, u1.ownBlock = some b → v2.ownBlock ≠ some b ∧ b ≠ H)
  | _ => ∃ u1 u2, Held W base B H cap v1 v2 u1 u2 N (mcells 1 N) (mcells 2 N) ∧ W.ownsRow base 86 4 u1 (N + 40) (mcells 1 (N + 40)) ∧ W.ownsRow base 86 4 u2 (N + 40) (mcells 2 (N + 40))

set_option maxHeartbeats 8000000 in
set_option maxRecDepth 100000 in
theorem growWord_any (base B H cap N : Nat) (a1 a2 : Option Addr) (c1 c2 : Nat) (w : World) (h : Held w base B H cap (.slice a1 N c1) (.slice a2 N c2) (.slice none 0 0) (.slice none 0 0) N (mcells 1 N) (mcells 2 N)) (hN : N ≤ 1000000) :
    Calls Tryz.prog 54 #[.pointer (some ⟨B, 0, none⟩)] w fun e w' => e = .returned (.tuple #[]) ∧ GSt w' base B H cap (.slice a1 N c1) (.slice a2 N c2) N 2 ∧ Below base w w' := by
  obtain ⟨i0, hi, hz0, hz1, hz2⟩ := info_parts infoWord
  have hlow := h.low
  replace h := Lib.hid h
  go_enter Tryz.func54, Tryz.ntmps54
  go_wp2
  go_loopw [2] (fun i wr => ∃ j : Nat, j ≤ 2 ∧ i = .int .i64 (j : Nat) ∧ GSt wr base B H cap (.slice a1 N c1) (.slice a2 N c2) N j ∧ Below base w wr) (fun i _ => 2 - (intOf i).toNat)
  case atStart => exact ⟨0, by omega, rfl, h.out, Below.refl _ _⟩
  case round =>
    obtain ⟨j, hj, hi2, hh, hb⟩ := hrel
    rcases (by omega : j = 0 ∨ j = 1 ∨ j = 2) with rfl | rfl | rfl
    · obtain ⟨wo, rfl⟩ : ∃ wo : World, wo = wr := ⟨_, rfl⟩
      replace hi2 : u2 = .int .i64 0 := hi2
      subst hi2
      replace hh : Held wo base B H cap (.slice a1 N c1) (.slice a2 N c2) (.slice none 0 0) (.slice none 0 0) N (mcells 1 N) (mcells 2 N) := hh
      have x5 := hh.book.c5
      obtain ⟨d0, d1, d2, d3, d4, d5⟩ := hh.cells
      have hHl := hh.H_lt
      have hBl := hh.book.lt
      obtain ⟨S, hS⟩ : ∃ S, S = wo.alloc (.cells #[.slice a1 N c1, .slice none 0 0, .int .i64 1] 124) := ⟨_, rfl⟩
      have hbS : Below wo.heap.size wo S := by rw [hS]; exact (Below.refl _ wo).alloc (Nat.le_refl _) _
      have hTS : Hid (HeldRow S wo.heap.size (.slice a1 N c1) (.slice none 0 0) 1) := by show HeldRow _ _ _ _ _; rw [hS]; exact heap_alloc_new wo _
      have hzS : S.heap.size = wo.heap.size + 1 := by rw [hS]; simp
      have hhS := Lib.hid (hh.below hbS)
      have hbw := Lib.hid (hb.trans (hbS.mono (by omega)))
      have hg0 := Lib.hid (GrowSt.start (i := 1) hhS.out.one)
      have hvlt : Hid (∀ b, (Value.slice a1 N c1).ownBlock = some b → b < B) := hh.one_lt
      replace hS := Lib.hid hS
      clear hh hb h hbS
      go_wp2
      rw [← hS.out]
      go_loopw [4, 5] (fun u i wr => ∃ k : Nat, k ≤ 40 ∧ i = .int .i64 (k : Nat) ∧ GrowSt S wr base 1 N k (.slice a1 N c1) u) (fun _ i _ => 40 - (intOf i).toNat)
      case atStart => exact ⟨0, by omega, rfl, hg0.out⟩
      case round =>
        obtain ⟨k, hk, rfl, hg⟩ := hrel
        clear hg0 x5 d0 d1 d2 d3 d4 d5
        have hT : HeldRow wr wo.heap.size (.slice a1 N c1) (.slice none 0 0) 1 := (hg.gr.block wo.heap.size (by omega) (blk_ne hvlt.out (by omega))).trans hTS.out
        obtain ⟨t0, t1, t2⟩ := hT.cells
        have hzw := hg.gr.size
        replace hT := Lib.hid hT
        by_cases hlt : k < 40
        · have cM : Hid (∀ V, Calls Tryz.prog 109 #[.int .i64 1] V fun e w' => e = .returned (.agg #[.int .u8 0, .string (markB 1), .int .i64 0, .int .i64 0]) ∧ Below V.heap.size V w') := fun V => markWord_any 1 (by omega) V
          replace hg := Lib.hid hg
          go_wp2_with (go_at_call 109; refine (cM.out _).mono ?_)
          first | rintro e W2 rfl hb2 | rintro e W2 ⟨rfl, hb2⟩
          have hg2 := (hg.out.below hb2).below ((Below.refl _ W2).alloc (Nat.le_refl _) (.cells #[.int .u8 0, .string (markB 1), .int .i64 0, .int .i64 0] 86))
          have hz2' := hb2.size
          have hlow2 : base ≤ W2.heap.size := by omega
          replace hg2 := Lib.hid hg2
          clear hb2 hg
          go_wp2_with (at_builtin; (refine wpList_append_ways rfl _ _ 49 rfl base 86 i0 _ 4 40 Tryz.underlying49 hi hz0 hz1 hz2 rfl (by decide) _ _ _ rfl hg2.out.lng ⟨W2.heap.size, 0, none⟩ 1 1 (mcell 1) rfl rfl ?c1 ?c2 ?c3 ?c4 ?c5 (by decide) ?_))
          case c1 =>
            intro j u hj
            match j, hj with
            | 0, hj => simp [mcell] at hj; subst hj; simp [Addr.add]
            | 1, hj => simp [mcell] at hj; subst hj; simp [Addr.add]
            | 2, hj => simp [mcell] at hj; subst hj; simp [Addr.add]
            | 3, hj => simp [mcell] at hj; subst hj; simp [Addr.add]
            | j + 4, hj => simp [mcell] at hj
          case c2 => intro u hu; simp [mcell] at hu; rcases hu with rfl | rfl | rfl <;> rfl
          case c3 => unfold maxLen; omega
          case c4 => omega
          case c5 => simp; omega
          intro v' w3 hown' hgr hw
          have hg3 := Lib.hid (hg2.out.step hown' hgr (hw.imp_right (fun h => ⟨by rw [h.1]; simp, h.2⟩)))
          clear hown' hgr hw hg2
          go_wp2
          go_roundw
          case rel => exact ⟨k + 1, by omega, by go_num, hg3.out⟩
          case measure => simp [intOf]; omega
        · obtain rfl : k = 40 := by omega
          obtain ⟨au, cu, hu4⟩ := bown_shape hg.lng
          subst hu4
          have hhw := hhS.out.grown1 hg.gr hg.own
          have y5 := hhw.book.c5
          have hHl2 := hhw.H_lt
          have hfH := hhw.held.frozenAt 1
          obtain ⟨d0, d1, d2, d3, d4, d5⟩ := hhw.cells
          have hfin := Lib.hid (hhw.long1 (Value.slice au (N + 40) cu))
          have hlg := hg.lng
          have hnH : Hid (∀ b, (Value.slice au (N + 40) cu).ownBlock = some b → b ≠ H ∧ (Value.slice a2 N c2).ownBlock ≠ some b) := by
            intro b hb
            rcases hg.way with ⟨g, c, hv, hu⟩ | ⟨b', hb', hSb⟩ | h0
            · have hvb : (Value.slice a1 N c1).ownBlock = some b := by rw [hv]; rw [hu] at hb; simpa [Value.ownBlock] using hb
              have := hvlt.out b hvb
              exact ⟨by omega, hhw.ne b hvb⟩
            · rw [hb] at hb'
              have hbb : b = b' := by simpa using hb'
              subst hbb
              have hHS := hhS.out.H_lt
              exact ⟨by omega, fun e => by have := hhw.two_lt b e; omega⟩
            · rw [hb] at h0; simp at h0
          have hlong1' := Lib.hid (hlg.kept (set_grown wr H 1 (Value.slice au (N + 40) cu)) (.inr (fun e => (hnH.out H e).1 rfl)))
          have hbf := Lib.hid ((Below.grown hbw.out hg.gr (by omega) (fun k hk => (hhw.one.lt k hk).1)).setCell (p := ⟨H, 1, none⟩) (by show base ≤ H; omega) (Value.slice au (N + 40) cu))
          replace hhw := Lib.hid hhw
          replace hg := Lib.hid hg
          clear hlg
          go_wp2
          go_roundw
          case rel => exact ⟨1, by omega, by go_num, ⟨Value.slice au (N + 40) cu, hfin.out, hlong1'.out, fun b hb => ⟨(hnH.out b hb).2, (hnH.out b hb).1⟩⟩, hbf.out⟩
          case measure => simp [intOf]
    · obtain ⟨wo, rfl⟩ : ∃ wo : World, wo = wr := ⟨_, rfl⟩
      replace hi2 : u2 = .int .i64 1 := hi2
      subst hi2
      obtain ⟨u1, hh, hlong, hfar⟩ := hh
      have x5 := hh.book.c5
      obtain ⟨d0, d1, d2, d3, d4, d5⟩ := hh.cells
      have hHl := hh.H_lt
      have hBl := hh.book.lt
      obtain ⟨S, hS⟩ : ∃ S, S = wo.alloc (.cells #[.slice a2 N c2, .slice none 0 0, .int .i64 2] 124) := ⟨_, rfl⟩
      have hbS : Below wo.heap.size wo S := by rw [hS]; exact (Below.refl _ wo).alloc (Nat.le_refl _) _
      have hTS : Hid (HeldRow S wo.heap.size (.slice a2 N c2) (.slice none 0 0) 2) := by show HeldRow _ _ _ _ _; rw [hS]; exact heap_alloc_new wo _
      have hzS : S.heap.size = wo.heap.size + 1 := by rw [hS]; simp
      have hhS := Lib.hid (hh.below hbS)
      have hbw := Lib.hid (hb.trans (hbS.mono (by omega)))
      have hg0 := Lib.hid (GrowSt.start (i := 2) hhS.out.two)
      have hvlt : Hid (∀ b, (Value.slice a2 N c2).ownBlock = some b → b < B) := hh.two_lt
      have hlongS := Lib.hid (hlong.kept (below_grown hbS none) (Classical.em _))
      replace hfar := Lib.hid hfar
      have hlt1 : Hid (∀ b, u1.ownBlock = some b → b < wo.heap.size) := fun b hb => (hlong.lt b hb).2
      clear hlong
      replace hS := Lib.hid hS
      clear hh hb h hbS
      go_wp2
      rw [← hS.out]
      go_loopw [4, 5] (fun u i wr => ∃ k : Nat, k ≤ 40 ∧ i = .int .i64 (k : Nat) ∧ GrowSt S wr base 2 N k (.slice a2 N c2) u) (fun _ i _ => 40 - (intOf i).toNat)
      case atStart => exact ⟨0, by omega, rfl, hg0.out⟩
      case round =>
        obtain ⟨k, hk, rfl, hg⟩ := hrel
        clear hg0 x5 d0 d1 d2 d3 d4 d5
        have hT : HeldRow wr wo.heap.size (.slice a2 N c2) (.slice none 0 0) 2 := (hg.gr.block wo.heap.size (by omega) (blk_ne hvlt.out (by omega))).trans hTS.out
        obtain ⟨t0, t1, t2⟩ := hT.cells
        have hzw := hg.gr.size
        replace hT := Lib.hid hT
        by_cases hlt : k < 40
        · have cM : Hid (∀ V, Calls Tryz.prog 109 #[.int .i64 2] V fun e w' => e = .returned (.agg #[.int .u8 0, .string (markB 2), .int .i64 0, .int .i64 0]) ∧ Below V.heap.size V w') := fun V => markWord_any 2 (by omega) V
          replace hg := Lib.hid hg
          go_wp2_with (go_at_call 109; refine (cM.out _).mono ?_)
          first | rintro e W2 rfl hb2 | rintro e W2 ⟨rfl, hb2⟩
          have hg2 := (hg.out.below hb2).below ((Below.refl _ W2).alloc (Nat.le_refl _) (.cells #[.int .u8 0, .string (markB 2), .int .i64 0, .int .i64 0] 86))
          have hz2' := hb2.size
          have hlow2 : base ≤ W2.heap.size := by omega
          replace hg2 := Lib.hid hg2
          clear hb2 hg
          go_wp2_with (at_builtin; (refine wpList_append_ways rfl _ _ 49 rfl base 86 i0 _ 4 40 Tryz.underlying49 hi hz0 hz1 hz2 rfl (by decide) _ _ _ rfl hg2.out.lng ⟨W2.heap.size, 0, none⟩ 1 1 (mcell 2) rfl rfl ?c1 ?c2 ?c3 ?c4 ?c5 (by decide) ?_))
          case c1 =>
            intro j u hj
            match j, hj with
            | 0, hj => simp [mcell] at hj; subst hj; simp [Addr.add]
            | 1, hj => simp [mcell] at hj; subst hj; simp [Addr.add]
            | 2, hj => simp [mcell] at hj; subst hj; simp [Addr.add]
            | 3, hj => simp [mcell] at hj; subst hj; simp [Addr.add]
            | j + 4, hj => simp [mcell] at hj
          case c2 => intro u hu; simp [mcell] at hu; rcases hu with rfl | rfl | rfl <;> rfl
          case c3 => unfold maxLen; omega
          case c4 => omega
          case c5 => simp; omega
          intro v' w3 hown' hgr hw
          have hg3 := Lib.hid (hg2.out.step hown' hgr (hw.imp_right (fun h => ⟨by rw [h.1]; simp, h.2⟩)))
          clear hown' hgr hw hg2
          go_wp2
          go_roundw
          case rel => exact ⟨k + 1, by omega, by go_num, hg3.out⟩
          case measure => simp [intOf]; omega
        · obtain rfl : k = 40 := by omega
          obtain ⟨au, cu, hu4⟩ := bown_shape hg.lng
          subst hu4
          have hhw := hhS.out.grown2 hg.gr hg.own
          have y5 := hhw.book.c5
          have hHl2 := hhw.H_lt
          have hfH := hhw.held.frozenAt 4
          obtain ⟨d0, d1, d2, d3, d4, d5⟩ := hhw.cells
          have hfin := Lib.hid (hhw.long2 (Value.slice au (N + 40) cu))
          have hlg := hg.lng
          have hnH : Hid (∀ b, (Value.slice au (N + 40) cu).ownBlock = some b → b ≠ H) := by
            intro b hb
            rcases hg.way with ⟨g, c, hv, hu⟩ | ⟨b', hb', hSb⟩ | h0
            · have hvb : (Value.slice a2 N c2).ownBlock = some b := by rw [hv]; rw [hu] at hb; simpa [Value.ownBlock] using hb
              have := hvlt.out b hvb
              exact by omega
            · rw [hb] at hb'
              have hbb : b = b' := by simpa using hb'
              subst hbb
              have hHS := hhS.out.H_lt
              exact by omega
            · rw [hb] at h0; simp at h0
          have hlong2' := Lib.hid (hlg.kept (set_grown wr H 4 (Value.slice au (N + 40) cu)) (.inr (fun e => hnH.out H e rfl)))
          have hlongw := hlongS.out.kept hg.gr (by
            rcases hq : u1.ownBlock with _ | b
            · exact .inl rfl
            · exact .inr (fun e => (hfar.out b hq).1 e.symm))
          have hlongf := Lib.hid (hlongw.kept (set_grown wr H 4 (Value.slice au (N + 40) cu)) (.inr (fun e => (hfar.out H e).2 rfl)))
          clear hlongw
          have hbf := Lib.hid ((Below.grown hbw.out hg.gr (by omega) (fun k hk => (hhw.two.lt k hk).1)).setCell (p := ⟨H, 4, none⟩) (by show base ≤ H; omega) (Value.slice au (N + 40) cu))
          replace hhw := Lib.hid hhw
          replace hg := Lib.hid hg
          clear hlg
          go_wp2
          go_roundw
          case rel => exact ⟨2, by omega, by go_num, ⟨u1, Value.slice au (N + 40) cu, hfin.out, hlongf.out, hlong2'.out⟩, hbf.out⟩
          case measure => simp [intOf]
    · replace hi2 : u2 = .int .i64 2 := hi2
      subst hi2
      have hh2 := hh
      obtain ⟨u1, u2', hH2, _⟩ := hh2
      have x5 := hH2.book.c5
      replace hh := Lib.hid hh
      replace hb := Lib.hid hb
      clear hH2
      go_wp2
      go_end0
      exact ⟨rfl, hh.out, hb.out⟩
end Go.Proofs.YtimdkdengdhglaaGreatDoor
