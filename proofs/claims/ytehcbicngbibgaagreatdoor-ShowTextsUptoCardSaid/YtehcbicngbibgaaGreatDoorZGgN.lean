/- A list of marks that grows by marks. -/
import Derived.Test.YtehcbicngbibgaaGreatDoorZGb
namespace Go.Proofs.YtehcbicngbibgaaGreatDoor
open Go Go.RowKit
theorem ggrown_trans {a b c : World} {row : Option Nat} (h : a.grownBy b row) (k : b.grownBy c row) : a.grownBy c row :=
  ⟨k.os.trans h.os, k.tape.trans h.tape, k.output.trans h.output, Nat.le_trans h.size k.size, fun i hi hne => (k.block i (Nat.lt_of_lt_of_le hi h.size) hne).trans (h.block i hi hne)⟩
theorem ggrown_none {a b : World} (h : a.grownBy b none) (row : Option Nat) : a.grownBy b row := ⟨h.os, h.tape, h.output, h.size, fun k hk _ => h.block k hk (by simp)⟩
theorem gbelow_grown {a b : World} (h : Below a.heap.size a b) (row : Option Nat) : a.grownBy b row := ⟨h.os, h.tape, h.output, h.size, fun k hk _ => h.block k hk⟩
/-- The list v (N marks of the number i) and what it has grown to, u, since the world S. -/
structure GrowSt (S wk : World) (base E K : Nat) (mk : Nat → List Value) (i N k : Nat) (v u : Value) : Prop where
  gr : S.grownBy wk v.ownBlock
  lng : wk.ownsRow base E K u (N + k) (marks mk i (N + k))
  own : wk.ownsRow base E K v N (marks mk i N)
  way : (∃ g c, v = .slice (some ⟨g, 0, none⟩) N c ∧ u = .slice (some ⟨g, 0, none⟩) (N + k) c) ∨ (∃ b, u.ownBlock = some b ∧ S.heap.size ≤ b) ∨ u.ownBlock = none
  lt : ∀ b, v.ownBlock = some b → b < S.heap.size
theorem GrowSt.start {S : World} {base E K i N : Nat} {mk : Nat → List Value} {v : Value} (h : S.ownsRow base E K v N (marks mk i N)) : GrowSt S S base E K mk i N 0 v v := by
  refine ⟨⟨rfl, rfl, rfl, Nat.le_refl _, fun _ _ _ => rfl⟩, h, h, ?_, fun b hb => (h.lt b hb).2⟩
  rcases h.2 with ⟨rfl, _⟩ | ⟨g, cap, cur, rfl, _⟩
  · exact .inr (.inr rfl)
  · exact .inl ⟨g, cap, rfl, rfl⟩
theorem GrowSt.below {S wk w' : World} {base E K i N k : Nat} {mk : Nat → List Value} {v u : Value} (h : GrowSt S wk base E K mk i N k v u) (hb : Below wk.heap.size wk w') : GrowSt S w' base E K mk i N k v u :=
  ⟨ggrown_trans h.gr (gbelow_grown hb _), h.lng.kept (gbelow_grown hb none) (Classical.em _), h.own.kept (gbelow_grown hb none) (Classical.em _), h.way, h.lt⟩
theorem GrowSt.step {S wk w' : World} {base E K i N k : Nat} {mk : Nat → List Value} (hK : ∀ i, (mk i).length = K) {v u u' : Value} (h : GrowSt S wk base E K mk i N k v u) (hown : w'.ownsRow base E K u' (N + k + 1) (marks mk i (N + k) ++ mk i)) (hgr : wk.grownBy w' u.ownBlock)
    (hw : (∃ g cap, u = .slice (some ⟨g, 0, none⟩) (N + k) cap ∧ u' = .slice (some ⟨g, 0, none⟩) (N + k + 1) cap) ∨ (u'.ownBlock = some wk.heap.size ∧ wk.grownBy w' none)) : GrowSt S w' base E K mk i N (k + 1) v u' := by
  have hl : w'.ownsRow base E K u' (N + (k + 1)) (marks mk i (N + (k + 1))) := by rw [← Nat.add_assoc, marks_succ]; exact hown
  rcases hw with ⟨g, cap, rfl, rfl⟩ | ⟨hat, hg0⟩
  · have hgr' : wk.grownBy w' (some g) := hgr
    rcases h.way with ⟨g1, c1, rfl, hu⟩ | ⟨b, hb, hSb⟩ | h0
    · obtain ⟨rfl, rfl⟩ : g = g1 ∧ cap = c1 := by simp at hu; exact hu
      refine ⟨ggrown_trans h.gr hgr', hl, ?_, .inl ⟨g, cap, rfl, rfl⟩, h.lt⟩
      have h2 := hl
      rw [marks_add] at h2
      exact World.ownsRow.front (n := N) (m := k + 1) h2 (marks_len hK i N)
    · obtain rfl : g = b := by simpa [Value.ownBlock] using hb
      have hne : v.ownBlock ≠ some g := fun e => by have := h.lt g e; omega
      refine ⟨⟨hgr'.os.trans h.gr.os, hgr'.tape.trans h.gr.tape, hgr'.output.trans h.gr.output, Nat.le_trans h.gr.size hgr'.size, fun j hj hjv => ?_⟩, hl, h.own.kept hgr' (.inr hne), .inr (.inl ⟨g, rfl, hSb⟩), h.lt⟩
      exact (hgr'.block j (Nat.lt_of_lt_of_le hj h.gr.size) (fun e => by simp at e; omega)).trans (h.gr.block j hj hjv)
    · simp [Value.ownBlock] at h0
  · exact ⟨ggrown_trans h.gr (ggrown_none hg0 _), hl, h.own.kept hg0 (Classical.em _), .inr (.inl ⟨_, hat, h.gr.size⟩), h.lt⟩
/-- The lists L, of which the first k have grown: L'. -/
def Upd (base E K : Nat) (mk : Nat → List Value) (w0 wr : World) (L L' : List Ent) (k : Nat) : Prop :=
  L'.length = L.length ∧ ∀ (q : Nat) (x : Ent), L[q]? = some x → ∃ y, L'[q]? = some y ∧ y.v = x.v ∧ y.n = x.n ∧ y.i = x.i ∧
    (q < k → wr.ownsRow base E K y.u (x.n + 40) (marks mk x.i (x.n + 40)) ∧ ∀ b, y.u.ownBlock = some b → x.v.ownBlock = some b ∨ w0.heap.size ≤ b) ∧ (k ≤ q → y = x)
end Go.Proofs.YtehcbicngbibgaaGreatDoor

/- The Book's growValue: every list of the kind grows by its marks. (By XGg.gen.py.) -/
namespace Go.Proofs.YtehcbicngbibgaaGreatDoor
open Go Go.RowKit
set_option maxHeartbeats 8000000 in
set_option maxRecDepth 100000 in
theorem growValue_any (base B : Nat) (hv : Value) (L : List Ent) (w : World) (hE : Env w) (hEB : EnvUnder base) (hc : w.cell? ⟨B, 3, none⟩ = some hv) (hB : B < w.heap.size) (hbB : base ≤ B) (hL : L.length ≤ 1073741824) (hhB : ∀ q, hv.ownBlock = some q → q ≠ B) (hh : w.ownsRow base 102 3 hv L.length (hcells L))
    (hr : ∀ x ∈ L, w.ownsRow base 59 8 x.v x.n (marks mkValue x.i x.n) ∧ x.i ≤ 1073741824 ∧ x.n ≤ 1073741824 ∧ x.u = .slice none 0 0 ∧ x.v.ownBlock ≠ some B ∧ ∀ q, hv.ownBlock = some q → x.v.ownBlock ≠ some q) (hap : EApart L) :
    Calls Tryz.prog 47 #[.pointer (some ⟨B, 0, none⟩)] w fun e w' => e = .returned (.tuple #[]) ∧ ∃ L', Upd base 59 8 mkValue w w' L L' L.length ∧ (∀ x ∈ L, w'.ownsRow base 59 8 x.v x.n (marks mkValue x.i x.n)) ∧ w'.ownsRow base 102 3 hv L.length (hcells L') ∧ Frm (fun b => (∃ x ∈ L, x.v.ownBlock = some b) ∨ hv.ownBlock = some b) w w' := by
  obtain ⟨i0, hi, hz0, hz1, hz2⟩ := info_parts infoV
  obtain ⟨ah, ch, rfl⟩ := row_shape hh
  obtain ⟨N, hN⟩ : ∃ N, N = L.length := ⟨_, rfl⟩
  rw [← hN] at hh hL hc hr hhB ⊢
  have hbw : base ≤ w.heap.size := by omega
  have hhw : Hid (∀ q, (Value.slice ah N ch).ownBlock = some q → q < w.heap.size) := fun q hq => (hh.lt q hq).2
  replace hE := Lib.hid hE
  replace hEB := Lib.hid hEB
  replace hh := Lib.hid hh
  replace hr := Lib.hid hr
  replace hap := Lib.hid hap
  replace hN := Lib.hid hN
  replace hhB := Lib.hid hhB
  go_enter Tryz.func47, Tryz.ntmps47
  go_wp2_with fail
  go_loopw [2] (fun i wr => ∃ (k : Nat) (L' : List Ent), k ≤ N ∧ i = .int .i64 (k : Nat) ∧ Upd base 59 8 mkValue w wr L L' k ∧ (∀ (q : Nat) (x : Ent), L[q]? = some x → wr.ownsRow base 59 8 x.v x.n (marks mkValue x.i x.n)) ∧ wr.ownsRow base 102 3 (.slice ah N ch) N (hcells L') ∧ Frm (fun b => (∃ x ∈ L, x.v.ownBlock = some b) ∨ (Value.slice ah N ch).ownBlock = some b) w wr) (fun i _ => N - (intOf i).toNat)
  case atStart => exact ⟨0, L, Nat.zero_le _, rfl, ⟨rfl, fun q x hx => ⟨x, hx, rfl, rfl, rfl, fun h => absurd h (Nat.not_lt_zero q), fun _ => rfl⟩⟩, fun q x hx => (hr.out x (List.mem_of_getElem? hx)).1, hh.out, Frm.refl _ _⟩
  case round =>
    obtain ⟨k, L', hk, rfl, hU, hm, hhq, hF⟩ := hrel
    obtain ⟨wq, hwq⟩ : ∃ wq : World, wq = wr := ⟨_, rfl⟩
    subst hwq
    have hcq : wq.cell? ⟨B, 3, none⟩ = some (.slice ah N ch) := (hF.cell (p := ⟨B, 3, none⟩) hB (fun h => by
      rcases h with ⟨x, hx, hb⟩ | h
      · exact (hr.out x hx).2.2.2.2.1 hb
      · exact hhB.out B h rfl)).trans hc
    have hzq := hF.size
    by_cases hlt : k < N
    · have hlt9 : Hid (k + 1 ≤ N) := hlt
      have hkL : k < L.length := by rw [← hN.out]; exact hlt
      obtain ⟨x, hx⟩ : ∃ x, L[k]? = some x := ⟨_, List.getElem?_eq_getElem hkL⟩
      obtain ⟨H0, c0, e0, hH1, hH2⟩ := hhq.form (by omega)
      obtain ⟨rfl, rfl⟩ : ah = some ⟨H0, 0, none⟩ ∧ ch = c0 := by simp at e0; exact ⟨e0.1, e0.2⟩
      obtain ⟨yy, hy, _, _, _, _, hyx⟩ := hU.2 k x hx
      obtain rfl := hyx (Nat.le_refl k)
      obtain ⟨y0, y1, y2⟩ := hcells_at hy
      have z0 : wq.cell? ⟨H0, k * 3, none⟩ = some yy.v := (hhq.cellAt (k * 3) (by omega)).trans y0
      have z1 : wq.cell? ⟨H0, k * 3 + 1, none⟩ = some yy.u := (hhq.cellAt (k * 3 + 1) (by omega)).trans y1
      have z2 : wq.cell? ⟨H0, k * 3 + 2, none⟩ = some (.int .i64 (yy.i : Nat)) := (hhq.cellAt (k * 3 + 2) (by omega)).trans y2
      obtain ⟨_, hxi, hxn, hxu, hxB, hxH⟩ := hr.out yy (List.mem_of_getElem? hx)
      have hrq := hm k yy hx
      obtain ⟨xv, xn, xi, xu⟩ := yy
      obtain rfl : xu = .slice none 0 0 := hxu
      obtain ⟨av, cv, hv9⟩ : ∃ av cv, xv = .slice av xn cv := row_shape hrq
      subst hv9
      have hrq' : wq.ownsRow base 59 8 (.slice av xn cv) xn (marks mkValue xi xn) := hrq
      replace z0 : wq.cell? ⟨H0, k * 3, none⟩ = some (.slice av xn cv) := z0
      replace z1 : wq.cell? ⟨H0, k * 3 + 1, none⟩ = some (.slice none 0 0) := z1
      replace z2 : wq.cell? ⟨H0, k * 3 + 2, none⟩ = some (.int .i64 (xi : Nat)) := z2
      replace hxi : xi ≤ 1073741824 := hxi
      replace hxn : xn ≤ 1073741824 := hxn
      have hvlt : Hid (∀ b, (Value.slice av xn cv).ownBlock = some b → base ≤ b ∧ b < wq.heap.size) := hrq'.lt
      have hvB : Hid (∀ b, (Value.slice av xn cv).ownBlock = some b → b ≠ B ∧ b ≠ H0 ∧ b < w.heap.size) := fun b hb => ⟨fun e => hxB (e ▸ hb), fun e => hxH H0 rfl (e ▸ hb), ((hr.out _ (List.mem_of_getElem? hx)).1.lt b hb).2⟩
      obtain ⟨S, hS⟩ : ∃ S, S = wq.alloc (.cells #[.slice av xn cv, .slice none 0 0, .int .i64 (xi : Nat)] 102) := ⟨_, rfl⟩
      have hbS : Below wq.heap.size wq S := by rw [hS]; exact (Below.refl _ _).alloc (Nat.le_refl _) _
      have hzS : S.heap.size = wq.heap.size + 1 := by rw [hS]; simp
      have hrS0 : S.heap[wq.heap.size]? = some (.cells #[.slice av xn cv, .slice none 0 0, .int .i64 (xi : Nat)] 102 (0, 0)) := by rw [hS]; exact heap_alloc_new wq _
      have t0 : S.cell? ⟨wq.heap.size, 0, none⟩ = some (.slice av xn cv) := by simp [World.cell?, hrS0]
      have t1 : S.cell? ⟨wq.heap.size, 1, none⟩ = some (.slice none 0 0) := by simp [World.cell?, hrS0]
      have t2 : S.cell? ⟨wq.heap.size, 2, none⟩ = some (.int .i64 (xi : Nat)) := by simp [World.cell?, hrS0]
      have hrS := Lib.hid hrS0
      have hG0 : Hid (GrowSt S S base 59 8 mkValue xi xn 0 (.slice av xn cv) (.slice av xn cv)) := GrowSt.start (own_same hrq' (fun b hb => hbS.block b (hvlt.out b hb).2))
      have hES : Hid (Env S) := hE.out.below (hF.low hbw (fun b h => by
        rcases h with ⟨y, hy, hyb⟩ | h
        · exact ((hr.out y hy).1.lt b hyb).1
        · exact (hh.out.lt b h).1) |>.trans (hbS.mono (by omega))) hEB.out
      have hcS : S.cell? ⟨B, 3, none⟩ = some (.slice (some ⟨H0, 0, none⟩) N ch) := (hbS.cell (p := ⟨B, 3, none⟩) (by show B < _; omega)).trans hcq
      replace hx := Lib.hid hx
      replace hy := Lib.hid hy
      replace hU := Lib.hid hU
      replace hm := Lib.hid hm
      replace hF := Lib.hid hF
      replace hbS := Lib.hid hbS
      replace hS := Lib.hid hS
      replace hhq := Lib.hid hhq
      clear hrq hrq' y0 y1 y2 e0 hxB hxH hrS0 hyx
      go_wp2_with (first | (rw [← hS.out]))
      go_loopw [4, 5] (fun u i wy => ∃ m : Nat, m ≤ 40 ∧ i = .int .i64 (m : Nat) ∧ GrowSt S wy base 59 8 mkValue xi xn m (.slice av xn cv) u) (fun _ i _ => 40 - (intOf i).toNat)
      case atStart => exact ⟨0, Nat.zero_le _, rfl, hG0.out⟩
      case round =>
        obtain ⟨m, hm9, rfl, hg⟩ := hrel
        obtain ⟨wy, hwy⟩ : ∃ wy : World, wy = wr := ⟨_, rfl⟩
        subst hwy
        have hzy := hg.gr.size
        have hry : wy.heap[wq.heap.size]? = some (.cells #[.slice av xn cv, .slice none 0 0, .int .i64 (xi : Nat)] 102 (0, 0)) := (hg.gr.block _ (by omega) (fun e => by have := hvlt.out _ e.symm; omega)).trans hrS.out
        clear z0 z1 z2 t0 t1 t2 hcq
        have t0 : wy.cell? ⟨wq.heap.size, 0, none⟩ = some (.slice av xn cv) := by simp [World.cell?, hry]
        have t1 : wy.cell? ⟨wq.heap.size, 1, none⟩ = some (.slice none 0 0) := by simp [World.cell?, hry]
        have t2 : wy.cell? ⟨wq.heap.size, 2, none⟩ = some (.int .i64 (xi : Nat)) := by simp [World.cell?, hry]
        have hcy : wy.cell? ⟨B, 3, none⟩ = some (.slice (some ⟨H0, 0, none⟩) N ch) := (World.cell?_of_block (a := ⟨B, 3, none⟩) (hg.gr.block B (by omega) (fun e => (hvB.out B e.symm).1 rfl))).trans hcS
        have hlowS : Below base S wy := ⟨hg.gr.os, hg.gr.tape, hg.gr.output, hg.gr.size, fun b hb => hg.gr.block b (by omega) (fun e => by have := (hvlt.out b e.symm).1; omega)⟩
        have hEy : Env wy := hES.out.below hlowS hEB.out
        replace hry := Lib.hid hry
        by_cases hmt : m < 40
        · have cM := Lib.hid (markValue_any xi hxi wy hEy)
          replace hlowS := Lib.hid hlowS
          replace hEy := Lib.hid hEy
          replace hg := Lib.hid hg
          clear hcS
          go_wp2_with (go_at_call 98; refine cM.out.mono ?_)
          first | rintro e W2 rfl hb2 | rintro e W2 ⟨rfl, hb2⟩
          have hg2 := (hg.out.below hb2).below ((Below.refl _ W2).alloc (Nat.le_refl _) (.cells #[.int .u8 0, .int .i64 0, .string (wordB xi), .slice none 0 0, .slice none 0 0, .int .u8 0, .string ⟨#[]⟩, .bool false] 59))
          have hz2' := hb2.size
          have hlow2 : base ≤ W2.heap.size := by omega
          replace hg2 := Lib.hid hg2
          clear hb2 hg t0 t1 t2 hcy
          go_wp2_with (at_builtin; (refine wpList_append_ways rfl _ _ 56 rfl base 59 i0 _ 8 112 Tryz.underlying56 hi hz0 hz1 hz2 rfl (by decide) _ _ _ rfl hg2.out.lng ⟨W2.heap.size, 0, none⟩ 1 1 (mkValue xi) rfl rfl ?c1 ?c2 ?c3 ?c4 ?c5 (by decide) ?_))
          case c1 => exact World.news_of_block (heap_alloc_new W2 _)
          case c2 => simp [mkValue, Value.oneCell']
          case c3 => unfold maxLen; omega
          case c4 => omega
          case c5 => simp; omega
          intro v' w3 hown' hgr hw
          have hg3 := Lib.hid (hg2.out.step mklenValue hown' hgr (hw.imp_right (fun h => ⟨by rw [h.1]; simp, h.2⟩)))
          clear hown' hgr hw hg2
          go_wp2_with fail
          go_roundw
          case rel => exact ⟨m + 1, by omega, by go_num, hg3.out⟩
          case measure => simp [intOf]; omega
        · have hm40 : m = 40 := by omega
          subst hm40
          clear hcS t0 t1 t2
          obtain ⟨au, cu, hu4⟩ := row_shape hg.lng
          subst hu4
          have hhy : wy.ownsRow base 102 3 (.slice (some ⟨H0, 0, none⟩) N ch) N (hcells L') := own_same hhq.out (fun b hb => (hg.gr.block b (by have := (hhq.out.lt b hb).2; omega) (fun e => by
            have h2 := (hvB.out b e.symm).2.1
            simp [Value.ownBlock] at hb; omega)).trans (hbS.out.block b (hhq.out.lt b hb).2))
          obtain ⟨q1, r1⟩ := cell_is hhy (k * 3 + 1) (by omega)
          have f1 := hhy.frozenAt (k * 3 + 1)
          obtain ⟨w6, hw6⟩ : ∃ w6, w6 = wy.setCell ⟨H0, k * 3 + 1, none⟩ (.slice au (xn + 40) cu) := ⟨_, rfl⟩
          have hst := hhy.stored (k * 3 + 1) (.slice au (xn + 40) cu)
          rw [hcells_set hy.out, ← hw6] at hst
          have hu6 : ∀ b, (Value.slice au (xn + 40) cu).ownBlock = some b → (Value.slice av xn cv).ownBlock = some b ∨ S.heap.size ≤ b := fun b hb => by
            rcases hg.way with ⟨g, c, hv, hu⟩ | ⟨b', hb', hSb⟩ | h0
            · left; rw [hv]; rw [hu] at hb; simpa [Value.ownBlock] using hb
            · right; rw [hb] at hb'; injection hb' with hb'; omega
            · rw [hb] at h0; simp at h0
          have hne6 : ∀ b, (Value.slice au (xn + 40) cu).ownBlock = some b → b ≠ H0 := fun b hb e => by
            rcases hu6 b hb with h | h
            · exact (hvB.out b h).2.1 e
            · have := (hhq.out.lt H0 rfl).2; omega
          have hl6 : w6.ownsRow base 59 8 (.slice au (xn + 40) cu) (xn + 40) (marks mkValue xi (xn + 40)) := own_same hg.lng (fun b hb => hst.2.block b (hg.lng.lt b hb).2 (fun e => hne6 b hb (by injection e)))
          have hU6 : Hid (Upd base 59 8 mkValue w w6 L (L'.set k ⟨.slice av xn cv, xn, xi, .slice au (xn + 40) cu⟩) (k + 1)) := by
            refine ⟨by rw [List.length_set]; exact hU.out.1, fun q x hxq => ?_⟩
            by_cases hqk : q = k
            · subst hqk
              rw [hx.out] at hxq
              injection hxq with hxq
              subst hxq
              refine ⟨⟨.slice av xn cv, xn, xi, .slice au (xn + 40) cu⟩, by rw [List.getElem?_set_self (by rw [hU.out.1, ← hN.out]; exact hlt)], rfl, rfl, rfl, fun _ => ⟨hl6, fun b hb => ?_⟩, fun h => absurd h (by omega)⟩
              rcases hu6 b hb with h | h
              · exact .inl h
              · exact .inr (by omega)
            · obtain ⟨y, g1, g2, g3, g4, g5, g6⟩ := hU.out.2 q x hxq
              refine ⟨y, by rw [List.getElem?_set_ne (fun e => hqk e.symm)]; exact g1, g2, g3, g4, fun hq => ?_, fun hq => g6 (by omega)⟩
              obtain ⟨p1, p2⟩ := g5 (by omega)
              refine ⟨own_same p1 (fun b hb => ?_), p2⟩
              have hbq := (p1.lt b hb).2
              have n1 : some b ≠ (Value.slice av xn cv).ownBlock := fun e => by
                rcases p2 b hb with h | h
                · exact hap.out.ne hxq hx.out hqk b h e.symm
                · have := (hvB.out b e.symm).2.2; omega
              have n2 : some b ≠ some H0 := fun e => by
                injection e with e
                rcases p2 b hb with h | h
                · exact (hr.out x (List.mem_of_getElem? hxq)).2.2.2.2.2 H0 rfl (by rw [h, e])
                · have := hhw.out H0 rfl; omega
              exact (hst.2.block b (by omega) n2).trans ((hg.gr.block b (by omega) n1).trans (hbS.out.block b hbq))
          have hm6 : Hid (∀ (q : Nat) (x : Ent), L[q]? = some x → w6.ownsRow base 59 8 x.v x.n (marks mkValue x.i x.n)) := fun q x hxq => by
            have n2 : ∀ b, x.v.ownBlock = some b → some b ≠ some H0 := fun b hb e => (hr.out x (List.mem_of_getElem? hxq)).2.2.2.2.2 H0 rfl (by rw [hb, e])
            by_cases hqk : q = k
            · subst hqk
              rw [hx.out] at hxq
              injection hxq with hxq
              subst hxq
              exact own_same hg.own (fun b hb => hst.2.block b (hg.own.lt b hb).2 (n2 b hb))
            · have p1 := hm.out q x hxq
              refine own_same p1 (fun b hb => ?_)
              have hbq := (p1.lt b hb).2
              exact (hst.2.block b (by omega) (n2 b hb)).trans ((hg.gr.block b (by omega) (fun e => hap.out.ne hxq hx.out hqk b hb e.symm)).trans (hbS.out.block b hbq))
          have hF6 : Hid (Frm (fun b => (∃ x ∈ L, x.v.ownBlock = some b) ∨ (Value.slice (some ⟨H0, 0, none⟩) N ch).ownBlock = some b) w w6) :=
            ((hF.out.trans (Frm.of_below hbS.out)).trans (Frm.of_grown hg.gr (fun b hb => .inl ⟨_, List.mem_of_getElem? hx.out, hb⟩))).trans (Frm.of_grown hst.2 (fun b hb => .inr (by rw [← hb]; rfl)))
          have hh6 := Lib.hid hst.1
          replace hg := Lib.hid hg
          replace hhy := Lib.hid hhy
          replace hlowS := Lib.hid hlowS
          replace hEy := Lib.hid hEy
          replace hw6 := Lib.hid hw6
          clear hst hu6 hne6 hl6
          go_wp2_with (first | (rw [← hw6.out]))
          go_roundw
          case rel => exact ⟨k + 1, _, hlt9.out, by go_num, hU6.out, hm6.out, hh6.out, hF6.out⟩
          case measure => simp [intOf]; have := hlt9.out; omega
    · have hkN : N = k := by omega
      subst hkN
      have hfin : Hid (∀ x ∈ L, wq.ownsRow base 59 8 x.v x.n (marks mkValue x.i x.n)) := fun x hx => by
        obtain ⟨q, hq, e⟩ := List.getElem_of_mem hx
        exact hm q x (by rw [List.getElem?_eq_getElem hq, e])
      replace hm := Lib.hid hm
      replace hF := Lib.hid hF
      replace hU := Lib.hid hU
      replace hhq := Lib.hid hhq
      go_wp2_with fail
      exact bodyPost_end (v := .tuple #[]) (results_none (by kernel_rfl) _ _ _) rfl ⟨rfl, L', hU.out, hfin.out, hhq.out, hF.out⟩
end Go.Proofs.YtehcbicngbibgaaGreatDoor

/- The Book's growField: every list of the kind grows by its marks. (By XGg.gen.py.) -/
namespace Go.Proofs.YtehcbicngbibgaaGreatDoor
open Go Go.RowKit
set_option maxHeartbeats 8000000 in
set_option maxRecDepth 100000 in
theorem growField_any (base B : Nat) (hv : Value) (L : List Ent) (w : World) (hE : Env w) (hEB : EnvUnder base) (hc : w.cell? ⟨B, 4, none⟩ = some hv) (hB : B < w.heap.size) (hbB : base ≤ B) (hL : L.length ≤ 1073741824) (hhB : ∀ q, hv.ownBlock = some q → q ≠ B) (hh : w.ownsRow base 105 3 hv L.length (hcells L))
    (hr : ∀ x ∈ L, w.ownsRow base 61 9 x.v x.n (marks mkField x.i x.n) ∧ x.i ≤ 1073741824 ∧ x.n ≤ 1073741824 ∧ x.u = .slice none 0 0 ∧ x.v.ownBlock ≠ some B ∧ ∀ q, hv.ownBlock = some q → x.v.ownBlock ≠ some q) (hap : EApart L) :
    Calls Tryz.prog 48 #[.pointer (some ⟨B, 0, none⟩)] w fun e w' => e = .returned (.tuple #[]) ∧ ∃ L', Upd base 61 9 mkField w w' L L' L.length ∧ (∀ x ∈ L, w'.ownsRow base 61 9 x.v x.n (marks mkField x.i x.n)) ∧ w'.ownsRow base 105 3 hv L.length (hcells L') ∧ Frm (fun b => (∃ x ∈ L, x.v.ownBlock = some b) ∨ hv.ownBlock = some b) w w' := by
  obtain ⟨i0, hi, hz0, hz1, hz2⟩ := info_parts infoF
  obtain ⟨ah, ch, rfl⟩ := row_shape hh
  obtain ⟨N, hN⟩ : ∃ N, N = L.length := ⟨_, rfl⟩
  rw [← hN] at hh hL hc hr hhB ⊢
  have hbw : base ≤ w.heap.size := by omega
  have hhw : Hid (∀ q, (Value.slice ah N ch).ownBlock = some q → q < w.heap.size) := fun q hq => (hh.lt q hq).2
  replace hE := Lib.hid hE
  replace hEB := Lib.hid hEB
  replace hh := Lib.hid hh
  replace hr := Lib.hid hr
  replace hap := Lib.hid hap
  replace hN := Lib.hid hN
  replace hhB := Lib.hid hhB
  go_enter Tryz.func48, Tryz.ntmps48
  go_wp2_with fail
  go_loopw [2] (fun i wr => ∃ (k : Nat) (L' : List Ent), k ≤ N ∧ i = .int .i64 (k : Nat) ∧ Upd base 61 9 mkField w wr L L' k ∧ (∀ (q : Nat) (x : Ent), L[q]? = some x → wr.ownsRow base 61 9 x.v x.n (marks mkField x.i x.n)) ∧ wr.ownsRow base 105 3 (.slice ah N ch) N (hcells L') ∧ Frm (fun b => (∃ x ∈ L, x.v.ownBlock = some b) ∨ (Value.slice ah N ch).ownBlock = some b) w wr) (fun i _ => N - (intOf i).toNat)
  case atStart => exact ⟨0, L, Nat.zero_le _, rfl, ⟨rfl, fun q x hx => ⟨x, hx, rfl, rfl, rfl, fun h => absurd h (Nat.not_lt_zero q), fun _ => rfl⟩⟩, fun q x hx => (hr.out x (List.mem_of_getElem? hx)).1, hh.out, Frm.refl _ _⟩
  case round =>
    obtain ⟨k, L', hk, rfl, hU, hm, hhq, hF⟩ := hrel
    obtain ⟨wq, hwq⟩ : ∃ wq : World, wq = wr := ⟨_, rfl⟩
    subst hwq
    have hcq : wq.cell? ⟨B, 4, none⟩ = some (.slice ah N ch) := (hF.cell (p := ⟨B, 4, none⟩) hB (fun h => by
      rcases h with ⟨x, hx, hb⟩ | h
      · exact (hr.out x hx).2.2.2.2.1 hb
      · exact hhB.out B h rfl)).trans hc
    have hzq := hF.size
    by_cases hlt : k < N
    · have hlt9 : Hid (k + 1 ≤ N) := hlt
      have hkL : k < L.length := by rw [← hN.out]; exact hlt
      obtain ⟨x, hx⟩ : ∃ x, L[k]? = some x := ⟨_, List.getElem?_eq_getElem hkL⟩
      obtain ⟨H0, c0, e0, hH1, hH2⟩ := hhq.form (by omega)
      obtain ⟨rfl, rfl⟩ : ah = some ⟨H0, 0, none⟩ ∧ ch = c0 := by simp at e0; exact ⟨e0.1, e0.2⟩
      obtain ⟨yy, hy, _, _, _, _, hyx⟩ := hU.2 k x hx
      obtain rfl := hyx (Nat.le_refl k)
      obtain ⟨y0, y1, y2⟩ := hcells_at hy
      have z0 : wq.cell? ⟨H0, k * 3, none⟩ = some yy.v := (hhq.cellAt (k * 3) (by omega)).trans y0
      have z1 : wq.cell? ⟨H0, k * 3 + 1, none⟩ = some yy.u := (hhq.cellAt (k * 3 + 1) (by omega)).trans y1
      have z2 : wq.cell? ⟨H0, k * 3 + 2, none⟩ = some (.int .i64 (yy.i : Nat)) := (hhq.cellAt (k * 3 + 2) (by omega)).trans y2
      obtain ⟨_, hxi, hxn, hxu, hxB, hxH⟩ := hr.out yy (List.mem_of_getElem? hx)
      have hrq := hm k yy hx
      obtain ⟨xv, xn, xi, xu⟩ := yy
      obtain rfl : xu = .slice none 0 0 := hxu
      obtain ⟨av, cv, hv9⟩ : ∃ av cv, xv = .slice av xn cv := row_shape hrq
      subst hv9
      have hrq' : wq.ownsRow base 61 9 (.slice av xn cv) xn (marks mkField xi xn) := hrq
      replace z0 : wq.cell? ⟨H0, k * 3, none⟩ = some (.slice av xn cv) := z0
      replace z1 : wq.cell? ⟨H0, k * 3 + 1, none⟩ = some (.slice none 0 0) := z1
      replace z2 : wq.cell? ⟨H0, k * 3 + 2, none⟩ = some (.int .i64 (xi : Nat)) := z2
      replace hxi : xi ≤ 1073741824 := hxi
      replace hxn : xn ≤ 1073741824 := hxn
      have hvlt : Hid (∀ b, (Value.slice av xn cv).ownBlock = some b → base ≤ b ∧ b < wq.heap.size) := hrq'.lt
      have hvB : Hid (∀ b, (Value.slice av xn cv).ownBlock = some b → b ≠ B ∧ b ≠ H0 ∧ b < w.heap.size) := fun b hb => ⟨fun e => hxB (e ▸ hb), fun e => hxH H0 rfl (e ▸ hb), ((hr.out _ (List.mem_of_getElem? hx)).1.lt b hb).2⟩
      obtain ⟨S, hS⟩ : ∃ S, S = wq.alloc (.cells #[.slice av xn cv, .slice none 0 0, .int .i64 (xi : Nat)] 105) := ⟨_, rfl⟩
      have hbS : Below wq.heap.size wq S := by rw [hS]; exact (Below.refl _ _).alloc (Nat.le_refl _) _
      have hzS : S.heap.size = wq.heap.size + 1 := by rw [hS]; simp
      have hrS0 : S.heap[wq.heap.size]? = some (.cells #[.slice av xn cv, .slice none 0 0, .int .i64 (xi : Nat)] 105 (0, 0)) := by rw [hS]; exact heap_alloc_new wq _
      have t0 : S.cell? ⟨wq.heap.size, 0, none⟩ = some (.slice av xn cv) := by simp [World.cell?, hrS0]
      have t1 : S.cell? ⟨wq.heap.size, 1, none⟩ = some (.slice none 0 0) := by simp [World.cell?, hrS0]
      have t2 : S.cell? ⟨wq.heap.size, 2, none⟩ = some (.int .i64 (xi : Nat)) := by simp [World.cell?, hrS0]
      have hrS := Lib.hid hrS0
      have hG0 : Hid (GrowSt S S base 61 9 mkField xi xn 0 (.slice av xn cv) (.slice av xn cv)) := GrowSt.start (own_same hrq' (fun b hb => hbS.block b (hvlt.out b hb).2))
      have hES : Hid (Env S) := hE.out.below (hF.low hbw (fun b h => by
        rcases h with ⟨y, hy, hyb⟩ | h
        · exact ((hr.out y hy).1.lt b hyb).1
        · exact (hh.out.lt b h).1) |>.trans (hbS.mono (by omega))) hEB.out
      have hcS : S.cell? ⟨B, 4, none⟩ = some (.slice (some ⟨H0, 0, none⟩) N ch) := (hbS.cell (p := ⟨B, 4, none⟩) (by show B < _; omega)).trans hcq
      replace hx := Lib.hid hx
      replace hy := Lib.hid hy
      replace hU := Lib.hid hU
      replace hm := Lib.hid hm
      replace hF := Lib.hid hF
      replace hbS := Lib.hid hbS
      replace hS := Lib.hid hS
      replace hhq := Lib.hid hhq
      clear hrq hrq' y0 y1 y2 e0 hxB hxH hrS0 hyx
      go_wp2_with (first | (rw [← hS.out]))
      go_loopw [4, 5] (fun u i wy => ∃ m : Nat, m ≤ 40 ∧ i = .int .i64 (m : Nat) ∧ GrowSt S wy base 61 9 mkField xi xn m (.slice av xn cv) u) (fun _ i _ => 40 - (intOf i).toNat)
      case atStart => exact ⟨0, Nat.zero_le _, rfl, hG0.out⟩
      case round =>
        obtain ⟨m, hm9, rfl, hg⟩ := hrel
        obtain ⟨wy, hwy⟩ : ∃ wy : World, wy = wr := ⟨_, rfl⟩
        subst hwy
        have hzy := hg.gr.size
        have hry : wy.heap[wq.heap.size]? = some (.cells #[.slice av xn cv, .slice none 0 0, .int .i64 (xi : Nat)] 105 (0, 0)) := (hg.gr.block _ (by omega) (fun e => by have := hvlt.out _ e.symm; omega)).trans hrS.out
        clear z0 z1 z2 t0 t1 t2 hcq
        have t0 : wy.cell? ⟨wq.heap.size, 0, none⟩ = some (.slice av xn cv) := by simp [World.cell?, hry]
        have t1 : wy.cell? ⟨wq.heap.size, 1, none⟩ = some (.slice none 0 0) := by simp [World.cell?, hry]
        have t2 : wy.cell? ⟨wq.heap.size, 2, none⟩ = some (.int .i64 (xi : Nat)) := by simp [World.cell?, hry]
        have hcy : wy.cell? ⟨B, 4, none⟩ = some (.slice (some ⟨H0, 0, none⟩) N ch) := (World.cell?_of_block (a := ⟨B, 4, none⟩) (hg.gr.block B (by omega) (fun e => (hvB.out B e.symm).1 rfl))).trans hcS
        have hlowS : Below base S wy := ⟨hg.gr.os, hg.gr.tape, hg.gr.output, hg.gr.size, fun b hb => hg.gr.block b (by omega) (fun e => by have := (hvlt.out b e.symm).1; omega)⟩
        have hEy : Env wy := hES.out.below hlowS hEB.out
        replace hry := Lib.hid hry
        by_cases hmt : m < 40
        · have cM := Lib.hid (markField_any xi hxi wy hEy)
          replace hlowS := Lib.hid hlowS
          replace hEy := Lib.hid hEy
          replace hg := Lib.hid hg
          clear hcS
          go_wp2_with (go_at_call 99; refine cM.out.mono ?_)
          first | rintro e W2 rfl hb2 | rintro e W2 ⟨rfl, hb2⟩
          have hg2 := (hg.out.below hb2).below ((Below.refl _ W2).alloc (Nat.le_refl _) (.cells #[.string (wordB xi), .int .u8 0, .int .i64 0, .string ⟨#[]⟩, .slice none 0 0, .slice none 0 0, .int .u8 0, .string ⟨#[]⟩, .bool false] 61))
          have hz2' := hb2.size
          have hlow2 : base ≤ W2.heap.size := by omega
          replace hg2 := Lib.hid hg2
          clear hb2 hg t0 t1 t2 hcy
          go_wp2_with (at_builtin; (refine wpList_append_ways rfl _ _ 51 rfl base 61 i0 _ 9 128 Tryz.underlying51 hi hz0 hz1 hz2 rfl (by decide) _ _ _ rfl hg2.out.lng ⟨W2.heap.size, 0, none⟩ 1 1 (mkField xi) rfl rfl ?c1 ?c2 ?c3 ?c4 ?c5 (by decide) ?_))
          case c1 => exact World.news_of_block (heap_alloc_new W2 _)
          case c2 => simp [mkField, Value.oneCell']
          case c3 => unfold maxLen; omega
          case c4 => omega
          case c5 => simp; omega
          intro v' w3 hown' hgr hw
          have hg3 := Lib.hid (hg2.out.step mklenField hown' hgr (hw.imp_right (fun h => ⟨by rw [h.1]; simp, h.2⟩)))
          clear hown' hgr hw hg2
          go_wp2_with fail
          go_roundw
          case rel => exact ⟨m + 1, by omega, by go_num, hg3.out⟩
          case measure => simp [intOf]; omega
        · have hm40 : m = 40 := by omega
          subst hm40
          clear hcS t0 t1 t2
          obtain ⟨au, cu, hu4⟩ := row_shape hg.lng
          subst hu4
          have hhy : wy.ownsRow base 105 3 (.slice (some ⟨H0, 0, none⟩) N ch) N (hcells L') := own_same hhq.out (fun b hb => (hg.gr.block b (by have := (hhq.out.lt b hb).2; omega) (fun e => by
            have h2 := (hvB.out b e.symm).2.1
            simp [Value.ownBlock] at hb; omega)).trans (hbS.out.block b (hhq.out.lt b hb).2))
          obtain ⟨q1, r1⟩ := cell_is hhy (k * 3 + 1) (by omega)
          have f1 := hhy.frozenAt (k * 3 + 1)
          obtain ⟨w6, hw6⟩ : ∃ w6, w6 = wy.setCell ⟨H0, k * 3 + 1, none⟩ (.slice au (xn + 40) cu) := ⟨_, rfl⟩
          have hst := hhy.stored (k * 3 + 1) (.slice au (xn + 40) cu)
          rw [hcells_set hy.out, ← hw6] at hst
          have hu6 : ∀ b, (Value.slice au (xn + 40) cu).ownBlock = some b → (Value.slice av xn cv).ownBlock = some b ∨ S.heap.size ≤ b := fun b hb => by
            rcases hg.way with ⟨g, c, hv, hu⟩ | ⟨b', hb', hSb⟩ | h0
            · left; rw [hv]; rw [hu] at hb; simpa [Value.ownBlock] using hb
            · right; rw [hb] at hb'; injection hb' with hb'; omega
            · rw [hb] at h0; simp at h0
          have hne6 : ∀ b, (Value.slice au (xn + 40) cu).ownBlock = some b → b ≠ H0 := fun b hb e => by
            rcases hu6 b hb with h | h
            · exact (hvB.out b h).2.1 e
            · have := (hhq.out.lt H0 rfl).2; omega
          have hl6 : w6.ownsRow base 61 9 (.slice au (xn + 40) cu) (xn + 40) (marks mkField xi (xn + 40)) := own_same hg.lng (fun b hb => hst.2.block b (hg.lng.lt b hb).2 (fun e => hne6 b hb (by injection e)))
          have hU6 : Hid (Upd base 61 9 mkField w w6 L (L'.set k ⟨.slice av xn cv, xn, xi, .slice au (xn + 40) cu⟩) (k + 1)) := by
            refine ⟨by rw [List.length_set]; exact hU.out.1, fun q x hxq => ?_⟩
            by_cases hqk : q = k
            · subst hqk
              rw [hx.out] at hxq
              injection hxq with hxq
              subst hxq
              refine ⟨⟨.slice av xn cv, xn, xi, .slice au (xn + 40) cu⟩, by rw [List.getElem?_set_self (by rw [hU.out.1, ← hN.out]; exact hlt)], rfl, rfl, rfl, fun _ => ⟨hl6, fun b hb => ?_⟩, fun h => absurd h (by omega)⟩
              rcases hu6 b hb with h | h
              · exact .inl h
              · exact .inr (by omega)
            · obtain ⟨y, g1, g2, g3, g4, g5, g6⟩ := hU.out.2 q x hxq
              refine ⟨y, by rw [List.getElem?_set_ne (fun e => hqk e.symm)]; exact g1, g2, g3, g4, fun hq => ?_, fun hq => g6 (by omega)⟩
              obtain ⟨p1, p2⟩ := g5 (by omega)
              refine ⟨own_same p1 (fun b hb => ?_), p2⟩
              have hbq := (p1.lt b hb).2
              have n1 : some b ≠ (Value.slice av xn cv).ownBlock := fun e => by
                rcases p2 b hb with h | h
                · exact hap.out.ne hxq hx.out hqk b h e.symm
                · have := (hvB.out b e.symm).2.2; omega
              have n2 : some b ≠ some H0 := fun e => by
                injection e with e
                rcases p2 b hb with h | h
                · exact (hr.out x (List.mem_of_getElem? hxq)).2.2.2.2.2 H0 rfl (by rw [h, e])
                · have := hhw.out H0 rfl; omega
              exact (hst.2.block b (by omega) n2).trans ((hg.gr.block b (by omega) n1).trans (hbS.out.block b hbq))
          have hm6 : Hid (∀ (q : Nat) (x : Ent), L[q]? = some x → w6.ownsRow base 61 9 x.v x.n (marks mkField x.i x.n)) := fun q x hxq => by
            have n2 : ∀ b, x.v.ownBlock = some b → some b ≠ some H0 := fun b hb e => (hr.out x (List.mem_of_getElem? hxq)).2.2.2.2.2 H0 rfl (by rw [hb, e])
            by_cases hqk : q = k
            · subst hqk
              rw [hx.out] at hxq
              injection hxq with hxq
              subst hxq
              exact own_same hg.own (fun b hb => hst.2.block b (hg.own.lt b hb).2 (n2 b hb))
            · have p1 := hm.out q x hxq
              refine own_same p1 (fun b hb => ?_)
              have hbq := (p1.lt b hb).2
              exact (hst.2.block b (by omega) (n2 b hb)).trans ((hg.gr.block b (by omega) (fun e => hap.out.ne hxq hx.out hqk b hb e.symm)).trans (hbS.out.block b hbq))
          have hF6 : Hid (Frm (fun b => (∃ x ∈ L, x.v.ownBlock = some b) ∨ (Value.slice (some ⟨H0, 0, none⟩) N ch).ownBlock = some b) w w6) :=
            ((hF.out.trans (Frm.of_below hbS.out)).trans (Frm.of_grown hg.gr (fun b hb => .inl ⟨_, List.mem_of_getElem? hx.out, hb⟩))).trans (Frm.of_grown hst.2 (fun b hb => .inr (by rw [← hb]; rfl)))
          have hh6 := Lib.hid hst.1
          replace hg := Lib.hid hg
          replace hhy := Lib.hid hhy
          replace hlowS := Lib.hid hlowS
          replace hEy := Lib.hid hEy
          replace hw6 := Lib.hid hw6
          clear hst hu6 hne6 hl6
          go_wp2_with (first | (rw [← hw6.out]))
          go_roundw
          case rel => exact ⟨k + 1, _, hlt9.out, by go_num, hU6.out, hm6.out, hh6.out, hF6.out⟩
          case measure => simp [intOf]; have := hlt9.out; omega
    · have hkN : N = k := by omega
      subst hkN
      have hfin : Hid (∀ x ∈ L, wq.ownsRow base 61 9 x.v x.n (marks mkField x.i x.n)) := fun x hx => by
        obtain ⟨q, hq, e⟩ := List.getElem_of_mem hx
        exact hm q x (by rw [List.getElem?_eq_getElem hq, e])
      replace hm := Lib.hid hm
      replace hF := Lib.hid hF
      replace hU := Lib.hid hU
      replace hhq := Lib.hid hhq
      go_wp2_with fail
      exact bodyPost_end (v := .tuple #[]) (results_none (by kernel_rfl) _ _ _) rfl ⟨rfl, L', hU.out, hfin.out, hhq.out, hF.out⟩
end Go.Proofs.YtehcbicngbibgaaGreatDoor

/- The Book's growNode: every list of the kind grows by its marks. (By XGg.gen.py.) -/
namespace Go.Proofs.YtehcbicngbibgaaGreatDoor
open Go Go.RowKit
set_option maxHeartbeats 8000000 in
set_option maxRecDepth 100000 in
theorem growNode_any (base B : Nat) (hv : Value) (L : List Ent) (w : World) (hE : Env w) (hEB : EnvUnder base) (hc : w.cell? ⟨B, 13, none⟩ = some hv) (hB : B < w.heap.size) (hbB : base ≤ B) (hL : L.length ≤ 1073741824) (hhB : ∀ q, hv.ownBlock = some q → q ≠ B) (hh : w.ownsRow base 93 3 hv L.length (hcells L))
    (hr : ∀ x ∈ L, w.ownsRow base 53 5 x.v x.n (marks mkNode x.i x.n) ∧ x.i ≤ 1073741824 ∧ x.n ≤ 1073741824 ∧ x.u = .slice none 0 0 ∧ x.v.ownBlock ≠ some B ∧ ∀ q, hv.ownBlock = some q → x.v.ownBlock ≠ some q) (hap : EApart L) :
    Calls Tryz.prog 57 #[.pointer (some ⟨B, 0, none⟩)] w fun e w' => e = .returned (.tuple #[]) ∧ ∃ L', Upd base 53 5 mkNode w w' L L' L.length ∧ (∀ x ∈ L, w'.ownsRow base 53 5 x.v x.n (marks mkNode x.i x.n)) ∧ w'.ownsRow base 93 3 hv L.length (hcells L') ∧ Frm (fun b => (∃ x ∈ L, x.v.ownBlock = some b) ∨ hv.ownBlock = some b) w w' := by
  obtain ⟨i0, hi, hz0, hz1, hz2⟩ := info_parts infoN
  obtain ⟨ah, ch, rfl⟩ := row_shape hh
  obtain ⟨N, hN⟩ : ∃ N, N = L.length := ⟨_, rfl⟩
  rw [← hN] at hh hL hc hr hhB ⊢
  have hbw : base ≤ w.heap.size := by omega
  have hhw : Hid (∀ q, (Value.slice ah N ch).ownBlock = some q → q < w.heap.size) := fun q hq => (hh.lt q hq).2
  replace hE := Lib.hid hE
  replace hEB := Lib.hid hEB
  replace hh := Lib.hid hh
  replace hr := Lib.hid hr
  replace hap := Lib.hid hap
  replace hN := Lib.hid hN
  replace hhB := Lib.hid hhB
  go_enter Tryz.func57, Tryz.ntmps57
  go_wp2_with fail
  go_loopw [2] (fun i wr => ∃ (k : Nat) (L' : List Ent), k ≤ N ∧ i = .int .i64 (k : Nat) ∧ Upd base 53 5 mkNode w wr L L' k ∧ (∀ (q : Nat) (x : Ent), L[q]? = some x → wr.ownsRow base 53 5 x.v x.n (marks mkNode x.i x.n)) ∧ wr.ownsRow base 93 3 (.slice ah N ch) N (hcells L') ∧ Frm (fun b => (∃ x ∈ L, x.v.ownBlock = some b) ∨ (Value.slice ah N ch).ownBlock = some b) w wr) (fun i _ => N - (intOf i).toNat)
  case atStart => exact ⟨0, L, Nat.zero_le _, rfl, ⟨rfl, fun q x hx => ⟨x, hx, rfl, rfl, rfl, fun h => absurd h (Nat.not_lt_zero q), fun _ => rfl⟩⟩, fun q x hx => (hr.out x (List.mem_of_getElem? hx)).1, hh.out, Frm.refl _ _⟩
  case round =>
    obtain ⟨k, L', hk, rfl, hU, hm, hhq, hF⟩ := hrel
    obtain ⟨wq, hwq⟩ : ∃ wq : World, wq = wr := ⟨_, rfl⟩
    subst hwq
    have hcq : wq.cell? ⟨B, 13, none⟩ = some (.slice ah N ch) := (hF.cell (p := ⟨B, 13, none⟩) hB (fun h => by
      rcases h with ⟨x, hx, hb⟩ | h
      · exact (hr.out x hx).2.2.2.2.1 hb
      · exact hhB.out B h rfl)).trans hc
    have hzq := hF.size
    by_cases hlt : k < N
    · have hlt9 : Hid (k + 1 ≤ N) := hlt
      have hkL : k < L.length := by rw [← hN.out]; exact hlt
      obtain ⟨x, hx⟩ : ∃ x, L[k]? = some x := ⟨_, List.getElem?_eq_getElem hkL⟩
      obtain ⟨H0, c0, e0, hH1, hH2⟩ := hhq.form (by omega)
      obtain ⟨rfl, rfl⟩ : ah = some ⟨H0, 0, none⟩ ∧ ch = c0 := by simp at e0; exact ⟨e0.1, e0.2⟩
      obtain ⟨yy, hy, _, _, _, _, hyx⟩ := hU.2 k x hx
      obtain rfl := hyx (Nat.le_refl k)
      obtain ⟨y0, y1, y2⟩ := hcells_at hy
      have z0 : wq.cell? ⟨H0, k * 3, none⟩ = some yy.v := (hhq.cellAt (k * 3) (by omega)).trans y0
      have z1 : wq.cell? ⟨H0, k * 3 + 1, none⟩ = some yy.u := (hhq.cellAt (k * 3 + 1) (by omega)).trans y1
      have z2 : wq.cell? ⟨H0, k * 3 + 2, none⟩ = some (.int .i64 (yy.i : Nat)) := (hhq.cellAt (k * 3 + 2) (by omega)).trans y2
      obtain ⟨_, hxi, hxn, hxu, hxB, hxH⟩ := hr.out yy (List.mem_of_getElem? hx)
      have hrq := hm k yy hx
      obtain ⟨xv, xn, xi, xu⟩ := yy
      obtain rfl : xu = .slice none 0 0 := hxu
      obtain ⟨av, cv, hv9⟩ : ∃ av cv, xv = .slice av xn cv := row_shape hrq
      subst hv9
      have hrq' : wq.ownsRow base 53 5 (.slice av xn cv) xn (marks mkNode xi xn) := hrq
      replace z0 : wq.cell? ⟨H0, k * 3, none⟩ = some (.slice av xn cv) := z0
      replace z1 : wq.cell? ⟨H0, k * 3 + 1, none⟩ = some (.slice none 0 0) := z1
      replace z2 : wq.cell? ⟨H0, k * 3 + 2, none⟩ = some (.int .i64 (xi : Nat)) := z2
      replace hxi : xi ≤ 1073741824 := hxi
      replace hxn : xn ≤ 1073741824 := hxn
      have hvlt : Hid (∀ b, (Value.slice av xn cv).ownBlock = some b → base ≤ b ∧ b < wq.heap.size) := hrq'.lt
      have hvB : Hid (∀ b, (Value.slice av xn cv).ownBlock = some b → b ≠ B ∧ b ≠ H0 ∧ b < w.heap.size) := fun b hb => ⟨fun e => hxB (e ▸ hb), fun e => hxH H0 rfl (e ▸ hb), ((hr.out _ (List.mem_of_getElem? hx)).1.lt b hb).2⟩
      obtain ⟨S, hS⟩ : ∃ S, S = wq.alloc (.cells #[.slice av xn cv, .slice none 0 0, .int .i64 (xi : Nat)] 93) := ⟨_, rfl⟩
      have hbS : Below wq.heap.size wq S := by rw [hS]; exact (Below.refl _ _).alloc (Nat.le_refl _) _
      have hzS : S.heap.size = wq.heap.size + 1 := by rw [hS]; simp
      have hrS0 : S.heap[wq.heap.size]? = some (.cells #[.slice av xn cv, .slice none 0 0, .int .i64 (xi : Nat)] 93 (0, 0)) := by rw [hS]; exact heap_alloc_new wq _
      have t0 : S.cell? ⟨wq.heap.size, 0, none⟩ = some (.slice av xn cv) := by simp [World.cell?, hrS0]
      have t1 : S.cell? ⟨wq.heap.size, 1, none⟩ = some (.slice none 0 0) := by simp [World.cell?, hrS0]
      have t2 : S.cell? ⟨wq.heap.size, 2, none⟩ = some (.int .i64 (xi : Nat)) := by simp [World.cell?, hrS0]
      have hrS := Lib.hid hrS0
      have hG0 : Hid (GrowSt S S base 53 5 mkNode xi xn 0 (.slice av xn cv) (.slice av xn cv)) := GrowSt.start (own_same hrq' (fun b hb => hbS.block b (hvlt.out b hb).2))
      have hES : Hid (Env S) := hE.out.below (hF.low hbw (fun b h => by
        rcases h with ⟨y, hy, hyb⟩ | h
        · exact ((hr.out y hy).1.lt b hyb).1
        · exact (hh.out.lt b h).1) |>.trans (hbS.mono (by omega))) hEB.out
      have hcS : S.cell? ⟨B, 13, none⟩ = some (.slice (some ⟨H0, 0, none⟩) N ch) := (hbS.cell (p := ⟨B, 13, none⟩) (by show B < _; omega)).trans hcq
      replace hx := Lib.hid hx
      replace hy := Lib.hid hy
      replace hU := Lib.hid hU
      replace hm := Lib.hid hm
      replace hF := Lib.hid hF
      replace hbS := Lib.hid hbS
      replace hS := Lib.hid hS
      replace hhq := Lib.hid hhq
      clear hrq hrq' y0 y1 y2 e0 hxB hxH hrS0 hyx
      go_wp2_with (first | (rw [← hS.out]))
      go_loopw [4, 5] (fun u i wy => ∃ m : Nat, m ≤ 40 ∧ i = .int .i64 (m : Nat) ∧ GrowSt S wy base 53 5 mkNode xi xn m (.slice av xn cv) u) (fun _ i _ => 40 - (intOf i).toNat)
      case atStart => exact ⟨0, Nat.zero_le _, rfl, hG0.out⟩
      case round =>
        obtain ⟨m, hm9, rfl, hg⟩ := hrel
        obtain ⟨wy, hwy⟩ : ∃ wy : World, wy = wr := ⟨_, rfl⟩
        subst hwy
        have hzy := hg.gr.size
        have hry : wy.heap[wq.heap.size]? = some (.cells #[.slice av xn cv, .slice none 0 0, .int .i64 (xi : Nat)] 93 (0, 0)) := (hg.gr.block _ (by omega) (fun e => by have := hvlt.out _ e.symm; omega)).trans hrS.out
        clear z0 z1 z2 t0 t1 t2 hcq
        have t0 : wy.cell? ⟨wq.heap.size, 0, none⟩ = some (.slice av xn cv) := by simp [World.cell?, hry]
        have t1 : wy.cell? ⟨wq.heap.size, 1, none⟩ = some (.slice none 0 0) := by simp [World.cell?, hry]
        have t2 : wy.cell? ⟨wq.heap.size, 2, none⟩ = some (.int .i64 (xi : Nat)) := by simp [World.cell?, hry]
        have hcy : wy.cell? ⟨B, 13, none⟩ = some (.slice (some ⟨H0, 0, none⟩) N ch) := (World.cell?_of_block (a := ⟨B, 13, none⟩) (hg.gr.block B (by omega) (fun e => (hvB.out B e.symm).1 rfl))).trans hcS
        have hlowS : Below base S wy := ⟨hg.gr.os, hg.gr.tape, hg.gr.output, hg.gr.size, fun b hb => hg.gr.block b (by omega) (fun e => by have := (hvlt.out b e.symm).1; omega)⟩
        have hEy : Env wy := hES.out.below hlowS hEB.out
        replace hry := Lib.hid hry
        by_cases hmt : m < 40
        · have cM := Lib.hid (markNode_any xi hxi wy hEy)
          replace hlowS := Lib.hid hlowS
          replace hEy := Lib.hid hEy
          replace hg := Lib.hid hg
          clear hcS
          go_wp2_with (go_at_call 108; refine cM.out.mono ?_)
          first | rintro e W2 rfl hb2 | rintro e W2 ⟨rfl, hb2⟩
          have hg2 := (hg.out.below hb2).below ((Below.refl _ W2).alloc (Nat.le_refl _) (.cells #[.int .i64 (-1000 - (xi : Int)), .string ⟨#[]⟩, .string ⟨#[]⟩, .slice none 0 0, .slice none 0 0] 53))
          have hz2' := hb2.size
          have hlow2 : base ≤ W2.heap.size := by omega
          replace hg2 := Lib.hid hg2
          clear hb2 hg t0 t1 t2 hcy
          go_wp2_with (at_builtin; (refine wpList_append_ways rfl _ _ 22 rfl base 53 i0 _ 5 88 Tryz.underlying22 hi hz0 hz1 hz2 rfl (by decide) _ _ _ rfl hg2.out.lng ⟨W2.heap.size, 0, none⟩ 1 1 (mkNode xi) rfl rfl ?c1 ?c2 ?c3 ?c4 ?c5 (by decide) ?_))
          case c1 => exact World.news_of_block (heap_alloc_new W2 _)
          case c2 => simp [mkNode, Value.oneCell']
          case c3 => unfold maxLen; omega
          case c4 => omega
          case c5 => simp; omega
          intro v' w3 hown' hgr hw
          have hg3 := Lib.hid (hg2.out.step mklenNode hown' hgr (hw.imp_right (fun h => ⟨by rw [h.1]; simp, h.2⟩)))
          clear hown' hgr hw hg2
          go_wp2_with fail
          go_roundw
          case rel => exact ⟨m + 1, by omega, by go_num, hg3.out⟩
          case measure => simp [intOf]; omega
        · have hm40 : m = 40 := by omega
          subst hm40
          clear hcS t0 t1 t2
          obtain ⟨au, cu, hu4⟩ := row_shape hg.lng
          subst hu4
          have hhy : wy.ownsRow base 93 3 (.slice (some ⟨H0, 0, none⟩) N ch) N (hcells L') := own_same hhq.out (fun b hb => (hg.gr.block b (by have := (hhq.out.lt b hb).2; omega) (fun e => by
            have h2 := (hvB.out b e.symm).2.1
            simp [Value.ownBlock] at hb; omega)).trans (hbS.out.block b (hhq.out.lt b hb).2))
          obtain ⟨q1, r1⟩ := cell_is hhy (k * 3 + 1) (by omega)
          have f1 := hhy.frozenAt (k * 3 + 1)
          obtain ⟨w6, hw6⟩ : ∃ w6, w6 = wy.setCell ⟨H0, k * 3 + 1, none⟩ (.slice au (xn + 40) cu) := ⟨_, rfl⟩
          have hst := hhy.stored (k * 3 + 1) (.slice au (xn + 40) cu)
          rw [hcells_set hy.out, ← hw6] at hst
          have hu6 : ∀ b, (Value.slice au (xn + 40) cu).ownBlock = some b → (Value.slice av xn cv).ownBlock = some b ∨ S.heap.size ≤ b := fun b hb => by
            rcases hg.way with ⟨g, c, hv, hu⟩ | ⟨b', hb', hSb⟩ | h0
            · left; rw [hv]; rw [hu] at hb; simpa [Value.ownBlock] using hb
            · right; rw [hb] at hb'; injection hb' with hb'; omega
            · rw [hb] at h0; simp at h0
          have hne6 : ∀ b, (Value.slice au (xn + 40) cu).ownBlock = some b → b ≠ H0 := fun b hb e => by
            rcases hu6 b hb with h | h
            · exact (hvB.out b h).2.1 e
            · have := (hhq.out.lt H0 rfl).2; omega
          have hl6 : w6.ownsRow base 53 5 (.slice au (xn + 40) cu) (xn + 40) (marks mkNode xi (xn + 40)) := own_same hg.lng (fun b hb => hst.2.block b (hg.lng.lt b hb).2 (fun e => hne6 b hb (by injection e)))
          have hU6 : Hid (Upd base 53 5 mkNode w w6 L (L'.set k ⟨.slice av xn cv, xn, xi, .slice au (xn + 40) cu⟩) (k + 1)) := by
            refine ⟨by rw [List.length_set]; exact hU.out.1, fun q x hxq => ?_⟩
            by_cases hqk : q = k
            · subst hqk
              rw [hx.out] at hxq
              injection hxq with hxq
              subst hxq
              refine ⟨⟨.slice av xn cv, xn, xi, .slice au (xn + 40) cu⟩, by rw [List.getElem?_set_self (by rw [hU.out.1, ← hN.out]; exact hlt)], rfl, rfl, rfl, fun _ => ⟨hl6, fun b hb => ?_⟩, fun h => absurd h (by omega)⟩
              rcases hu6 b hb with h | h
              · exact .inl h
              · exact .inr (by omega)
            · obtain ⟨y, g1, g2, g3, g4, g5, g6⟩ := hU.out.2 q x hxq
              refine ⟨y, by rw [List.getElem?_set_ne (fun e => hqk e.symm)]; exact g1, g2, g3, g4, fun hq => ?_, fun hq => g6 (by omega)⟩
              obtain ⟨p1, p2⟩ := g5 (by omega)
              refine ⟨own_same p1 (fun b hb => ?_), p2⟩
              have hbq := (p1.lt b hb).2
              have n1 : some b ≠ (Value.slice av xn cv).ownBlock := fun e => by
                rcases p2 b hb with h | h
                · exact hap.out.ne hxq hx.out hqk b h e.symm
                · have := (hvB.out b e.symm).2.2; omega
              have n2 : some b ≠ some H0 := fun e => by
                injection e with e
                rcases p2 b hb with h | h
                · exact (hr.out x (List.mem_of_getElem? hxq)).2.2.2.2.2 H0 rfl (by rw [h, e])
                · have := hhw.out H0 rfl; omega
              exact (hst.2.block b (by omega) n2).trans ((hg.gr.block b (by omega) n1).trans (hbS.out.block b hbq))
          have hm6 : Hid (∀ (q : Nat) (x : Ent), L[q]? = some x → w6.ownsRow base 53 5 x.v x.n (marks mkNode x.i x.n)) := fun q x hxq => by
            have n2 : ∀ b, x.v.ownBlock = some b → some b ≠ some H0 := fun b hb e => (hr.out x (List.mem_of_getElem? hxq)).2.2.2.2.2 H0 rfl (by rw [hb, e])
            by_cases hqk : q = k
            · subst hqk
              rw [hx.out] at hxq
              injection hxq with hxq
              subst hxq
              exact own_same hg.own (fun b hb => hst.2.block b (hg.own.lt b hb).2 (n2 b hb))
            · have p1 := hm.out q x hxq
              refine own_same p1 (fun b hb => ?_)
              have hbq := (p1.lt b hb).2
              exact (hst.2.block b (by omega) (n2 b hb)).trans ((hg.gr.block b (by omega) (fun e => hap.out.ne hxq hx.out hqk b hb e.symm)).trans (hbS.out.block b hbq))
          have hF6 : Hid (Frm (fun b => (∃ x ∈ L, x.v.ownBlock = some b) ∨ (Value.slice (some ⟨H0, 0, none⟩) N ch).ownBlock = some b) w w6) :=
            ((hF.out.trans (Frm.of_below hbS.out)).trans (Frm.of_grown hg.gr (fun b hb => .inl ⟨_, List.mem_of_getElem? hx.out, hb⟩))).trans (Frm.of_grown hst.2 (fun b hb => .inr (by rw [← hb]; rfl)))
          have hh6 := Lib.hid hst.1
          replace hg := Lib.hid hg
          replace hhy := Lib.hid hhy
          replace hlowS := Lib.hid hlowS
          replace hEy := Lib.hid hEy
          replace hw6 := Lib.hid hw6
          clear hst hu6 hne6 hl6
          go_wp2_with (first | (rw [← hw6.out]))
          go_roundw
          case rel => exact ⟨k + 1, _, hlt9.out, by go_num, hU6.out, hm6.out, hh6.out, hF6.out⟩
          case measure => simp [intOf]; have := hlt9.out; omega
    · have hkN : N = k := by omega
      subst hkN
      have hfin : Hid (∀ x ∈ L, wq.ownsRow base 53 5 x.v x.n (marks mkNode x.i x.n)) := fun x hx => by
        obtain ⟨q, hq, e⟩ := List.getElem_of_mem hx
        exact hm q x (by rw [List.getElem?_eq_getElem hq, e])
      replace hm := Lib.hid hm
      replace hF := Lib.hid hF
      replace hU := Lib.hid hU
      replace hhq := Lib.hid hhq
      go_wp2_with fail
      exact bodyPost_end (v := .tuple #[]) (results_none (by kernel_rfl) _ _ _) rfl ⟨rfl, L', hU.out, hfin.out, hhq.out, hF.out⟩
end Go.Proofs.YtehcbicngbibgaaGreatDoor
