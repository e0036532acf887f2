/- The teller's quoted. -/
import Derived.Test.YtehcbicngbibgaaGreatDoorZMy
import Derived.Test.YtehcbicngbibgaaGreatDoorZLl
import Derived.WalkSmall
import Derived.Test.YtehcbicngbibgaaGreatDoorZShelf
import Derived.Lib.AppendIntMem
import Derived.Lib.LaidTab
namespace Go.Proofs.YtehcbicngbibgaaGreatDoor
open Go Go.RowKit
theorem byte_append (a b : List UInt8) : Lib.byteCells (a ++ b) = Lib.byteCells a ++ Lib.byteCells b := by simp [Lib.byteCells]
theorem str_cells (l : List UInt8) : Lib.strCells (bs l) = Lib.byteCells l := by simp [Lib.strCells, Lib.byteCells, bs]
set_option maxHeartbeats 2000000 in
set_option maxRecDepth 100000 in
theorem quotedL_any (b : Nat) (v : Value) (l s : List UInt8) (w : World) (h : Bat 204 b v (Lib.byteCells l) w) (hlen : l.length + (2 * s.length + 2) ≤ 1073741824) :
    Calls Tryz.prog 156 #[.pointer (some ⟨b, 0, none⟩), .string (bs s)] w fun e w' => e = .returned (.tuple #[]) ∧ Wrote 204 b v (Lib.byteCells (l ++ quoteL s)) w w' := by
  have hsz := bs_size s
  have hgg : Hid (∀ (k : Nat) (hk : k < s.length) (h : k < (bs s).size), (bs s)[k]'h = s[k]'hk) := fun k hk h => bs_get s k h
  generalize bs s = S at *
  have c0 := Lib.hid (byte_any 204 b heads_teller v (Lib.byteCells l) 34 w h (by rw [Lib.byteCells_length]; omega))
  replace h := Lib.hid h
  go_enter Tryz.func156, Tryz.ntmps156
  go_wp2_with (go_at_call 85; refine c0.out.mono ?_)
  rintro e w1 ⟨rfl, v1, hB1, hT1⟩
  replace hB1 : Bat 204 b v1 (Lib.byteCells (l ++ 34 :: escL (s.take 0))) w1 := by
    have e2 : l ++ 34 :: escL (s.take 0) = l ++ [34] := by simp [escL]
    rw [e2, byte_append]
    exact hB1
  clear c0
  replace hB1 := Lib.hid hB1
  replace hT1 := Lib.hid hT1
  go_wp2_with fail
  go_loopw [12] (fun i wr => ∃ (k : Nat) (v' : Value), k ≤ s.length ∧ i = .int .i64 (k : Nat) ∧ Bat 204 b v' (Lib.byteCells (l ++ 34 :: escL (s.take k))) wr ∧ Turn w wr b v v') (fun i _ => s.length - (intOf i).toNat)
  case atStart => exact ⟨0, v1, Nat.zero_le _, rfl, hB1.out, hT1.out⟩
  case round =>
    obtain ⟨k, v', hk, rfl, hB, hT⟩ := hrel
    have hel := escL_len (s.take k)
    have htl := List.length_take_le k s
    by_cases hlt : k < s.length
    · have htl' : (s.take k).length ≤ s.length - 1 := by rw [List.length_take]; omega
      have hg : ∀ h, S[k]'h = s[k] := fun h => hgg.out k hlt h
      have hs := Lib.hid (escL_take s k hlt)
      generalize s[k] = c at *
      have cB : ∀ x : Int, Calls Tryz.prog 85 #[.pointer (some ⟨b, 0, none⟩), .int .u8 x] wr fun e w' => e = .returned .nilIface ∧ Wrote 204 b v' (Lib.byteCells (l ++ 34 :: escL (s.take k)) ++ [.int .u8 x]) wr w' := fun x => byte_any 204 b heads_teller v' _ x wr hB (by rw [Lib.byteCells_length]; simp; omega)
      have cS : ∀ x : List UInt8, x.length = 2 → Calls Tryz.prog 86 #[.pointer (some ⟨b, 0, none⟩), .string (bs x)] wr fun e w' => e = .returned (.tuple #[.int .i64 (bs x).size, .nilIface]) ∧ Wrote 204 b v' (Lib.byteCells (l ++ 34 :: escL (s.take k)) ++ Lib.byteCells x) wr w' := fun x hx => by
        have := str_any 204 b heads_teller v' _ (bs x) wr hB (by rw [Lib.byteCells_length, bs_size]; simp; omega)
        rwa [str_cells] at this
      by_cases c1 : c = 34 ∨ c = 92
      · rcases c1 with rfl | rfl
        · skip
          have cW := Lib.hid (cS [92, 34] rfl)
          clear cS cB
          go_wp2_with (first | (go_at_call 85; refine cW.out.mono ?_) | (go_at_call 86; refine cW.out.mono ?_))
          rintro e w4 ⟨rfl, v4, hB4, hT4⟩
          have hW4 : Bat 204 b v4 (Lib.byteCells (l ++ 34 :: escL (s.take (k + 1)))) w4 := by
            have e := hs.out
            have e2 : l ++ 34 :: escL (s.take (k + 1)) = (l ++ 34 :: escL (s.take k)) ++ [92, 34] := by rw [e]; simp [escL, if_true]
            rw [e2, byte_append]
            exact hB4
          have hT4' := hT.trans hT4
          replace hW4 := Lib.hid hW4
          replace hT4' := Lib.hid hT4'
          clear hB4 hT4
          go_wp2_with fail
          go_roundw
          case rel => exact ⟨k + 1, v4, by omega, by go_num, hW4.out, hT4'.out⟩
          case measure => simp [intOf]; omega
        · skip
          have cW := Lib.hid (cS [92, 92] rfl)
          clear cS cB
          go_wp2_with (first | (go_at_call 85; refine cW.out.mono ?_) | (go_at_call 86; refine cW.out.mono ?_))
          rintro e w4 ⟨rfl, v4, hB4, hT4⟩
          have hW4 : Bat 204 b v4 (Lib.byteCells (l ++ 34 :: escL (s.take (k + 1)))) w4 := by
            have e := hs.out
            have e2 : l ++ 34 :: escL (s.take (k + 1)) = (l ++ 34 :: escL (s.take k)) ++ [92, 92] := by rw [e]; simp [escL, if_true]
            rw [e2, byte_append]
            exact hB4
          have hT4' := hT.trans hT4
          replace hW4 := Lib.hid hW4
          replace hT4' := Lib.hid hT4'
          clear hB4 hT4
          go_wp2_with fail
          go_roundw
          case rel => exact ⟨k + 1, v4, by omega, by go_num, hW4.out, hT4'.out⟩
          case measure => simp [intOf]; omega
      · by_cases c2 : c = 10
        · subst c2
          have cW := Lib.hid (cS [92, 110] rfl)
          clear cS cB
          go_wp2_with (first | (go_at_call 85; refine cW.out.mono ?_) | (go_at_call 86; refine cW.out.mono ?_))
          rintro e w4 ⟨rfl, v4, hB4, hT4⟩
          have hW4 : Bat 204 b v4 (Lib.byteCells (l ++ 34 :: escL (s.take (k + 1)))) w4 := by
            have e := hs.out
            have e2 : l ++ 34 :: escL (s.take (k + 1)) = (l ++ 34 :: escL (s.take k)) ++ [92, 110] := by rw [e]; simp [escL]
            rw [e2, byte_append]
            exact hB4
          have hT4' := hT.trans hT4
          replace hW4 := Lib.hid hW4
          replace hT4' := Lib.hid hT4'
          clear hB4 hT4
          go_wp2_with fail
          go_roundw
          case rel => exact ⟨k + 1, v4, by omega, by go_num, hW4.out, hT4'.out⟩
          case measure => simp [intOf]; omega
        · have t1 : ((c.toNat : Int) == 34) = false := by
            rw [beq_eq_false_iff_ne]; intro h; apply c1; left; apply UInt8.toNat_inj.1; simp; omega
          have t2 : ((c.toNat : Int) == 92) = false := by
            rw [beq_eq_false_iff_ne]; intro h; apply c1; right; apply UInt8.toNat_inj.1; simp; omega
          have t3 : ((c.toNat : Int) == 10) = false := by
            rw [beq_eq_false_iff_ne]; intro h; apply c2; apply UInt8.toNat_inj.1; simp; omega
          have c1' := Lib.hid c1
          have c2' := Lib.hid c2
          clear c1 c2
          have cW := Lib.hid (cB (c.toNat : Int))
          clear cS cB
          go_wp2_with (first | (go_at_call 85; refine cW.out.mono ?_) | (go_at_call 86; refine cW.out.mono ?_))
          rintro e w4 ⟨rfl, v4, hB4, hT4⟩
          have hW4 : Bat 204 b v4 (Lib.byteCells (l ++ 34 :: escL (s.take (k + 1)))) w4 := by
            have e := hs.out
            have e2 : l ++ 34 :: escL (s.take (k + 1)) = (l ++ 34 :: escL (s.take k)) ++ [c] := by rw [e]; simp [escL, c1'.out, c2'.out]
            rw [e2, byte_append]
            exact hB4
          have hT4' := hT.trans hT4
          replace hW4 := Lib.hid hW4
          replace hT4' := Lib.hid hT4'
          clear hB4 hT4
          go_wp2_with fail
          go_roundw
          case rel => exact ⟨k + 1, v4, by omega, by go_num, hW4.out, hT4'.out⟩
          case measure => simp [intOf]; omega
    · obtain rfl : k = s.length := by omega
      rw [List.take_length] at hB hel
      have cW := Lib.hid (byte_any 204 b heads_teller v' _ 34 wr hB (by rw [Lib.byteCells_length]; simp; omega))
      replace hB := Lib.hid hB
      go_wp2_with (go_at_call 85; refine cW.out.mono ?_)
      rintro e w4 ⟨rfl, v4, hB4, hT4⟩
      have hW4 : Wrote 204 b v (Lib.byteCells (l ++ quoteL s)) w w4 := ⟨v4, by
        have e2 : l ++ quoteL s = (l ++ 34 :: escL s) ++ [34] := by simp [quoteL]
        rw [e2, byte_append]
        exact hB4, hT.trans hT4⟩
      clear hB4 hT4
      replace hW4 := Lib.hid hW4
      go_wp2_with fail
      exact bodyPost_end (v := .tuple #[]) (results_none (by kernel_rfl) _ _ _) rfl ⟨rfl, hW4.out⟩
theorem quoted_any (b : Nat) (v : Value) (l : List UInt8) (s : ByteArray) (w : World) (h : Bat 204 b v (Lib.byteCells l) w) (hlen : l.length + (2 * s.size + 2) ≤ 1073741824) :
    Calls Tryz.prog 156 #[.pointer (some ⟨b, 0, none⟩), .string s] w fun e w' => e = .returned (.tuple #[]) ∧ Wrote 204 b v (Lib.byteCells (l ++ quoteL s.data.toList)) w w' := by
  have := quotedL_any b v l s.data.toList w h (by rw [← size_list]; exact hlen)
  rwa [bs_toList] at this
end Go.Proofs.YtehcbicngbibgaaGreatDoor

/- The library's table in memory; a number as text. -/
namespace Go.Proofs.YtehcbicngbibgaaGreatDoor
open Go Go.RowKit
def Env (w : World) : Prop := Lib.TabIs Tryz.prog w "internal/strconv.uint64pow10" .u64 Lib.pow10Tab
def EnvUnder (B : Nat) : Prop := 0 < B
theorem env_g : Tryz.prog.globalNamed "internal/strconv.uint64pow10" = some 0 := by kernel_rfl
theorem var_lt {P : Program} {w : World} {n : String} {g : Nat} {cs : Array Value} (hg : P.globalNamed n = some g) (h : w.var? P n = some cs) : g < w.heap.size := by
  unfold World.var? at h
  rw [hg] at h
  simp only [Option.bind_some] at h
  by_cases hlt : g < w.heap.size
  · exact hlt
  · rw [Array.getElem?_eq_none (Nat.le_of_not_lt hlt)] at h; simp at h
theorem Env.size {w : World} (h : Env w) : EnvUnder w.heap.size := var_lt env_g h
theorem Env.below {w w' : World} (h : Env w) {B : Nat} (hb : Below B w w') (hB : EnvUnder B) : Env w' := var?_below hb env_g hB h
theorem Env.kept {w w' : World} (h : Env w) (hb : Below w.heap.size w w') : Env w' := h.below hb h.size
theorem fmt_any (n : Int) (w : World) (h0 : -9223372036854775808 ≤ n ∧ n ≤ 9223372036854775807) (hE : Env w) :
    Calls Tryz.prog 155 #[.int .i64 n, .int .i64 10] w fun e w' => e = .returned (.string (bs (Lib.itoa n))) ∧ Below w.heap.size w w' :=
  (Tryz.strconv_FormatInt_10 n h0.1 h0.2 w hE).mono fun e w' ⟨he, k, os, hw⟩ => ⟨he, hw ▸ Lib.below_grow _ w (Nat.le_refl _) k os⟩
end Go.Proofs.YtehcbicngbibgaaGreatDoor

/- The teller's value of a plain kind; value.Text; show.quoted. -/
namespace Go.Proofs.YtehcbicngbibgaaGreatDoor
open Go Go.RowKit
set_option maxHeartbeats 2000000 in
set_option maxRecDepth 100000 in
theorem tell_any (b : Nat) (v : Value) (l : List UInt8) (κ n : Int) (s : ByteArray) (la fa : Option Addr) (ln lc fn fc : Nat) (el : Int) (key : ByteArray) (hk : Bool) (w : World) (hB : Bat 204 b v (Lib.byteCells l) w) (hE : Env w) (hκ : κ = 1 ∨ κ = 2 ∨ κ = 3) (hn : (Lit.int .i64 n).wf = true) (hp : plainP κ n s ln fn el key hk = true) (hlen : l.length + (2 * s.size + 24) ≤ 1073741824) :
    Calls Tryz.prog 137 #[.pointer (some ⟨b, 0, none⟩), .agg #[.int .u8 κ, .int .i64 n, .string s, .slice la ln lc, .slice fa fn fc, .int .u8 el, .string key, .bool hk]] w fun e w' => e = .returned (.tuple #[]) ∧ Wrote 204 b v (Lib.byteCells (l ++ vP κ n s)) w w' := by
  have hn1 := n64 hn
  obtain ⟨S, hS⟩ : ∃ S, S = w.alloc (.cells #[.int .u8 κ, .int .i64 n, .string s, .slice la ln lc, .slice fa fn fc, .int .u8 el, .string key, .bool hk] 59) := ⟨_, rfl⟩
  have hbS : Below w.heap.size w S := by rw [hS]; exact (Below.refl _ _).alloc (Nat.le_refl _) _
  have hrS : S.heap[w.heap.size]? = some (.cells #[.int .u8 κ, .int .i64 n, .string s, .slice la ln lc, .slice fa fn fc, .int .u8 el, .string key, .bool hk] 59 (0, 0)) := by rw [hS]; exact heap_alloc_new w _
  have hzS : S.heap.size = w.heap.size + 1 := by rw [hS]; simp
  have x0 : S.cell? ⟨w.heap.size, 0, none⟩ = some (.int .u8 κ) := by simp [World.cell?, hrS]
  have x1 : S.cell? ⟨w.heap.size, 1, none⟩ = some (.int .i64 n) := by simp [World.cell?, hrS]
  have x2 : S.cell? ⟨w.heap.size, 2, none⟩ = some (.string s) := by simp [World.cell?, hrS]
  have x3 : S.cell? ⟨w.heap.size, 3, none⟩ = some (.slice la ln lc) := by simp [World.cell?, hrS]
  have x4 : S.cell? ⟨w.heap.size, 4, none⟩ = some (.slice fa fn fc) := by simp [World.cell?, hrS]
  have x5 : S.cell? ⟨w.heap.size, 5, none⟩ = some (.int .u8 el) := by simp [World.cell?, hrS]
  have x6 : S.cell? ⟨w.heap.size, 6, none⟩ = some (.string key) := by simp [World.cell?, hrS]
  have x7 : S.cell? ⟨w.heap.size, 7, none⟩ = some (.bool hk) := by simp [World.cell?, hrS]
  have hWS : Hid (S = _) := hS
  replace hrS := Lib.hid hrS
  clear hS
  have hBS := hB.later hbS
  have hTS : Turn w S b v v := Turn.below hbS
  have hES : Env S := hE.kept hbS
  have hfin : Hid (∀ x w', Wrote 204 b v (Lib.byteCells l ++ Lib.byteCells x) S w' → Wrote 204 b v (Lib.byteCells (l ++ x)) w w') := fun x w' ⟨v2, h1, h2⟩ => ⟨v2, by rw [byte_append]; exact h1, hTS.trans h2⟩
  replace hbS := Lib.hid hbS
  replace hTS := Lib.hid hTS
  clear hB hE
  rcases hκ with rfl | rfl | rfl
  · have x1' : ∀ d : LowW S, d.w.cell? ⟨w.heap.size, 1, none⟩ = some (.int .i64 n) := fun d => (d.cell (by show w.heap.size < _; omega)).trans x1
    have cF : Hid (∀ d : LowW S, Calls Tryz.prog 155 #[.int .i64 n, .int .i64 10] d.w fun e w' => e = .returned (.string (bs (Lib.itoa n))) ∧ ∃ d' : LowW S, w' = d'.w) := fun d => by
      refine (fmt_any n d.w hn1 (hES.kept d.low)).mono ?_
      rintro e w' ⟨rfl, h⟩
      exact ⟨rfl, d.more h⟩
    have hil := Lib.itoa_length_le n (by omega) (by omega)
    have cW : Hid (∀ d : LowW S, Calls Tryz.prog 86 #[.pointer (some ⟨b, 0, none⟩), .string (bs (Lib.itoa n))] d.w fun e w' => e = .returned (.tuple #[.int .i64 (bs (Lib.itoa n)).size, .nilIface]) ∧ Wrote 204 b v (Lib.byteCells l ++ Lib.byteCells (Lib.itoa n)) S w') := fun d => by
      have := str_any 204 b heads_teller v _ (bs (Lib.itoa n)) d.w (hBS.later d.low) (by rw [Lib.byteCells_length, bs_size]; omega)
      rw [str_cells] at this
      exact this.mono fun e w' ⟨h1, v2, h2, h3⟩ => ⟨h1, v2, h2, (Turn.below d.low).trans h3⟩
    clear hn1 hil hn hp hlen
    replace hBS := Lib.hid hBS
    obtain ⟨z, hz⟩ : ∃ z, z = bs (Lib.itoa n) := ⟨_, rfl⟩
    rw [← hz] at cW cF
    replace hz := Lib.hid hz
    have hvp : Hid (Lib.itoa n = vP 1 n s) := rfl
    rw [hvp.out] at cW
    go_enter Tryz.func137, Tryz.ntmps137
    go_wp2_with (first | (rw [← hWS.out]))
    refine wp_region_low_last 6 rfl rfl (by kernel_rfl) (by kernel_rfl) (by kernel_rfl) ?_
    simp only [List.take_succ_cons, List.take_zero]
    repeat (go_big_quiet_step (first | (go_at_call 155; exact cF.out _)))
    refine wpQuiet_nil ?_
    rintro _ ⟨d, rfl⟩ K hK
    go_simp
    go_at_call 86
    refine (cW.out d).mono ?_
    rintro e w3 ⟨rfl, hw3⟩
    refine hK.out _ _ ?_
    clear hK K
    replace hw3 := Lib.hid (hfin.out _ _ hw3)
    go_wp2_with fail
    exact bodyPost_end (v := .tuple #[]) (results_none (by kernel_rfl) _ _ _) rfl ⟨rfl, hw3.out⟩
  · have hn01 : n = 0 ∨ n = 1 := by
      unfold plainP at hp
      simp only [Bool.and_eq_true, Bool.or_eq_true, decide_eq_true_eq] at hp
      have := hp.2
      simp at this
      exact this.2
    rcases hn01 with hnn | hnn
    · skip
      subst hnn
      have e1 : vP 2 0 s = [110, 111] := by unfold vP; simp
      have cW : Hid (∀ d : LowW S, Calls Tryz.prog 86 #[.pointer (some ⟨b, 0, none⟩), .string (bs [110, 111])] d.w fun e w' => e = .returned (.tuple #[.int .i64 (bs [110, 111]).size, .nilIface]) ∧ Wrote 204 b v (Lib.byteCells l ++ Lib.byteCells [110, 111]) S w') := fun d => by
        have := str_any 204 b heads_teller v _ (bs [110, 111]) d.w (hBS.later d.low) (by rw [Lib.byteCells_length, bs_size]; simp; omega)
        rw [str_cells] at this
        exact this.mono fun e w' ⟨h1, v2, h2, h3⟩ => ⟨h1, v2, h2, (Turn.below d.low).trans h3⟩
      rw [e1]
      obtain ⟨W4, hW4⟩ : ∃ W4, W4 = (S.alloc (.cells #[.string ⟨#[110, 111]⟩, .string ⟨#[121, 101, 115]⟩] 9)).drew := ⟨_, rfl⟩
      have hb4 : Below S.heap.size S W4 := by rw [hW4]; exact ((Below.refl _ S).alloc (Nat.le_refl _) _).drew
      have hr4 : W4.heap[S.heap.size]? = some (.cells #[.string ⟨#[110, 111]⟩, .string ⟨#[121, 101, 115]⟩] 9 (0, 0)) := by rw [hW4]; exact heap_alloc_new S _
      have r0 : W4.cell? ⟨S.heap.size, 0, none⟩ = some (.string ⟨#[110, 111]⟩) := by simp [World.cell?, hr4]
      have r1 : W4.cell? ⟨S.heap.size, 1, none⟩ = some (.string ⟨#[121, 101, 115]⟩) := by simp [World.cell?, hr4]
      rw [hzS] at r0 r1
      have cW4 := Lib.hid (cW.out ⟨W4, hb4⟩)
      clear cW hr4 e1 hn hp hn1 hlen
      replace hBS := Lib.hid hBS
      replace hES := Lib.hid hES
      have z1 := (hb4.cell (p := ⟨w.heap.size, 1, none⟩) (by show w.heap.size < _; omega)).trans x1
      replace hb4 := Lib.hid hb4
      replace hW4 := Lib.hid hW4
      go_enter Tryz.func137, Tryz.ntmps137
      go_wp2_with (first | (rw [← hWS.out]))
      have hq0 : (fun U : World => U.cell? ⟨w.heap.size, 1, none⟩ = some (.int .i64 0)) S.drew := x1
      refine region_but (fun U : World => U.cell? ⟨w.heap.size, 1, none⟩ = some (.int .i64 0)) 8 (by kernel_rfl) ?_
      refine AnyBut.takeR 0 (d := some 23) (v := ?_) rfl rfl (by kernel_rfl) (by kernel_rfl) (by decide) (by kernel_rfl) (by kernel_rfl) (by kernel_rfl) (fun _ _ _ h => h) (by rfl) (by assumption) ?_ ?_
      rotate_left
      · intro U hU; have y0 := hU; go_simp <;> with_reducible rfl
      try simp only [Act.put, List.setIfInBounds_toArray, List.set_cons_zero, List.set_cons_succ]
      refine AnyBut.takeR 1 (d := some 24) (v := ?_) rfl rfl (by kernel_rfl) (by kernel_rfl) (by decide) (by kernel_rfl) (by kernel_rfl) (by kernel_rfl) (fun _ _ _ h => h) (by rfl) (by assumption) ?_ ?_
      rotate_left
      · intro U hU; have y0 := hU; go_simp <;> with_reducible rfl
      try simp only [Act.put, List.setIfInBounds_toArray, List.set_cons_zero, List.set_cons_succ]
      refine AnyBut.takeR 2 (d := some 25) (v := ?_) rfl rfl (by kernel_rfl) (by kernel_rfl) (by decide) (by kernel_rfl) (by kernel_rfl) (by kernel_rfl) (fun _ _ _ h => h) (by rfl) (by assumption) ?_ ?_
      rotate_left
      · intro U hU; have y0 := hU; go_simp <;> with_reducible rfl
      try simp only [Act.put, List.setIfInBounds_toArray, List.set_cons_zero, List.set_cons_succ]
      refine AnyBut.takeR 4 (d := some 27) (v := ?_) rfl rfl (by kernel_rfl) (by kernel_rfl) (by decide) (by kernel_rfl) (by kernel_rfl) (by kernel_rfl) (fun _ _ _ h => h) (by rfl) (by assumption) ?_ ?_
      rotate_left
      · intro U hU; have y0 := hU; go_simp <;> with_reducible rfl
      try simp only [Act.put, List.setIfInBounds_toArray, List.set_cons_zero, List.set_cons_succ]
      refine AnyBut.takeR 5 (d := some 28) (v := ?_) rfl rfl (by kernel_rfl) (by kernel_rfl) (by decide) (by kernel_rfl) (by kernel_rfl) (by kernel_rfl) (fun _ _ _ h => h) (by rfl) (by assumption) ?_ ?_
      rotate_left
      · intro U hU; have y0 := hU; go_simp <;> with_reducible rfl
      try simp only [Act.put, List.setIfInBounds_toArray, List.set_cons_zero, List.set_cons_succ]
      refine AnyBut.one 3 rfl (by kernel_rfl) (fun K hK => ?_)
      go_simp
      rw [← hW4.out]
      refine hK.out _ _ (fun _ => z1) ?_
      clear hK K hq0
      try simp only [Act.put, List.setIfInBounds_toArray, List.set_cons_zero, List.set_cons_succ]
      have hq1 : (fun U : World => U.cell? ⟨w.heap.size, 1, none⟩ = some (.int .i64 0)) W4 := z1
      refine AnyBut.takeR 6 (d := some 29) (v := ?_) rfl rfl (by kernel_rfl) (by kernel_rfl) (by decide) (by kernel_rfl) (by kernel_rfl) (by kernel_rfl) (fun _ _ _ h => h) (by rfl) (by assumption) ?_ ?_
      rotate_left
      · intro U hU; have y0 := hU; go_simp <;> with_reducible rfl
      try simp only [Act.put, List.setIfInBounds_toArray, List.set_cons_zero, List.set_cons_succ]
      refine AnyBut.one 7 rfl (by kernel_rfl) (fun K hK => ?_)
      go_simp
      refine hK.out _ _ (fun _ => z1) ?_
      clear hK K hq1
      try simp only [Act.put, List.setIfInBounds_toArray, List.set_cons_zero, List.set_cons_succ]
      refine AnyBut.one 8 rfl (by kernel_rfl) (fun K hK => ?_)
      go_simp
      go_at_call 86
      refine cW4.out.mono ?_
      rintro e w3 ⟨rfl, hw3⟩
      refine hK.out _ _ (fun h => absurd rfl h) ?_
      clear hK K
      try simp only [Act.put, List.setIfInBounds_toArray, List.set_cons_zero, List.set_cons_succ]
      refine AnyBut.done (by kernel_rfl) ?_
      replace hw3 := Lib.hid (hfin.out _ _ hw3)
      go_wp2_with fail
      exact bodyPost_end (v := .tuple #[]) (results_none (by kernel_rfl) _ _ _) rfl ⟨rfl, hw3.out⟩
    · skip
      subst hnn
      have e1 : vP 2 1 s = [121, 101, 115] := by unfold vP; simp
      have cW : Hid (∀ d : LowW S, Calls Tryz.prog 86 #[.pointer (some ⟨b, 0, none⟩), .string (bs [121, 101, 115])] d.w fun e w' => e = .returned (.tuple #[.int .i64 (bs [121, 101, 115]).size, .nilIface]) ∧ Wrote 204 b v (Lib.byteCells l ++ Lib.byteCells [121, 101, 115]) S w') := fun d => by
        have := str_any 204 b heads_teller v _ (bs [121, 101, 115]) d.w (hBS.later d.low) (by rw [Lib.byteCells_length, bs_size]; simp; omega)
        rw [str_cells] at this
        exact this.mono fun e w' ⟨h1, v2, h2, h3⟩ => ⟨h1, v2, h2, (Turn.below d.low).trans h3⟩
      rw [e1]
      obtain ⟨W4, hW4⟩ : ∃ W4, W4 = (S.alloc (.cells #[.string ⟨#[110, 111]⟩, .string ⟨#[121, 101, 115]⟩] 9)).drew := ⟨_, rfl⟩
      have hb4 : Below S.heap.size S W4 := by rw [hW4]; exact ((Below.refl _ S).alloc (Nat.le_refl _) _).drew
      have hr4 : W4.heap[S.heap.size]? = some (.cells #[.string ⟨#[110, 111]⟩, .string ⟨#[121, 101, 115]⟩] 9 (0, 0)) := by rw [hW4]; exact heap_alloc_new S _
      have r0 : W4.cell? ⟨S.heap.size, 0, none⟩ = some (.string ⟨#[110, 111]⟩) := by simp [World.cell?, hr4]
      have r1 : W4.cell? ⟨S.heap.size, 1, none⟩ = some (.string ⟨#[121, 101, 115]⟩) := by simp [World.cell?, hr4]
      rw [hzS] at r0 r1
      have cW4 := Lib.hid (cW.out ⟨W4, hb4⟩)
      clear cW hr4 e1 hn hp hn1 hlen
      replace hBS := Lib.hid hBS
      replace hES := Lib.hid hES
      have z1 := (hb4.cell (p := ⟨w.heap.size, 1, none⟩) (by show w.heap.size < _; omega)).trans x1
      replace hb4 := Lib.hid hb4
      replace hW4 := Lib.hid hW4
      go_enter Tryz.func137, Tryz.ntmps137
      go_wp2_with (first | (rw [← hWS.out]))
      have hq0 : (fun U : World => U.cell? ⟨w.heap.size, 1, none⟩ = some (.int .i64 1)) S.drew := x1
      refine region_but (fun U : World => U.cell? ⟨w.heap.size, 1, none⟩ = some (.int .i64 1)) 8 (by kernel_rfl) ?_
      refine AnyBut.takeR 0 (d := some 23) (v := ?_) rfl rfl (by kernel_rfl) (by kernel_rfl) (by decide) (by kernel_rfl) (by kernel_rfl) (by kernel_rfl) (fun _ _ _ h => h) (by rfl) (by assumption) ?_ ?_
      rotate_left
      · intro U hU; have y0 := hU; go_simp <;> with_reducible rfl
      try simp only [Act.put, List.setIfInBounds_toArray, List.set_cons_zero, List.set_cons_succ]
      refine AnyBut.takeR 1 (d := some 24) (v := ?_) rfl rfl (by kernel_rfl) (by kernel_rfl) (by decide) (by kernel_rfl) (by kernel_rfl) (by kernel_rfl) (fun _ _ _ h => h) (by rfl) (by assumption) ?_ ?_
      rotate_left
      · intro U hU; have y0 := hU; go_simp <;> with_reducible rfl
      try simp only [Act.put, List.setIfInBounds_toArray, List.set_cons_zero, List.set_cons_succ]
      refine AnyBut.takeR 2 (d := some 25) (v := ?_) rfl rfl (by kernel_rfl) (by kernel_rfl) (by decide) (by kernel_rfl) (by kernel_rfl) (by kernel_rfl) (fun _ _ _ h => h) (by rfl) (by assumption) ?_ ?_
      rotate_left
      · intro U hU; have y0 := hU; go_simp <;> with_reducible rfl
      try simp only [Act.put, List.setIfInBounds_toArray, List.set_cons_zero, List.set_cons_succ]
      refine AnyBut.takeR 4 (d := some 27) (v := ?_) rfl rfl (by kernel_rfl) (by kernel_rfl) (by decide) (by kernel_rfl) (by kernel_rfl) (by kernel_rfl) (fun _ _ _ h => h) (by rfl) (by assumption) ?_ ?_
      rotate_left
      · intro U hU; have y0 := hU; go_simp <;> with_reducible rfl
      try simp only [Act.put, List.setIfInBounds_toArray, List.set_cons_zero, List.set_cons_succ]
      refine AnyBut.takeR 5 (d := some 28) (v := ?_) rfl rfl (by kernel_rfl) (by kernel_rfl) (by decide) (by kernel_rfl) (by kernel_rfl) (by kernel_rfl) (fun _ _ _ h => h) (by rfl) (by assumption) ?_ ?_
      rotate_left
      · intro U hU; have y0 := hU; go_simp <;> with_reducible rfl
      try simp only [Act.put, List.setIfInBounds_toArray, List.set_cons_zero, List.set_cons_succ]
      refine AnyBut.one 3 rfl (by kernel_rfl) (fun K hK => ?_)
      go_simp
      rw [← hW4.out]
      refine hK.out _ _ (fun _ => z1) ?_
      clear hK K hq0
      try simp only [Act.put, List.setIfInBounds_toArray, List.set_cons_zero, List.set_cons_succ]
      have hq1 : (fun U : World => U.cell? ⟨w.heap.size, 1, none⟩ = some (.int .i64 1)) W4 := z1
      refine AnyBut.takeR 6 (d := some 29) (v := ?_) rfl rfl (by kernel_rfl) (by kernel_rfl) (by decide) (by kernel_rfl) (by kernel_rfl) (by kernel_rfl) (fun _ _ _ h => h) (by rfl) (by assumption) ?_ ?_
      rotate_left
      · intro U hU; have y0 := hU; go_simp <;> with_reducible rfl
      try simp only [Act.put, List.setIfInBounds_toArray, List.set_cons_zero, List.set_cons_succ]
      refine AnyBut.one 7 rfl (by kernel_rfl) (fun K hK => ?_)
      go_simp
      refine hK.out _ _ (fun _ => z1) ?_
      clear hK K hq1
      try simp only [Act.put, List.setIfInBounds_toArray, List.set_cons_zero, List.set_cons_succ]
      refine AnyBut.one 8 rfl (by kernel_rfl) (fun K hK => ?_)
      go_simp
      go_at_call 86
      refine cW4.out.mono ?_
      rintro e w3 ⟨rfl, hw3⟩
      refine hK.out _ _ (fun h => absurd rfl h) ?_
      clear hK K
      try simp only [Act.put, List.setIfInBounds_toArray, List.set_cons_zero, List.set_cons_succ]
      refine AnyBut.done (by kernel_rfl) ?_
      replace hw3 := Lib.hid (hfin.out _ _ hw3)
      go_wp2_with fail
      exact bodyPost_end (v := .tuple #[]) (results_none (by kernel_rfl) _ _ _) rfl ⟨rfl, hw3.out⟩
  · have cQ := quoted_any b v l s S hBS (by omega)
    replace cQ := Lib.hid cQ
    clear hn hp hn1 hlen
    replace hBS := Lib.hid hBS
    replace hES := Lib.hid hES
    go_enter Tryz.func137, Tryz.ntmps137
    go_wp2_with (first | (rw [← hWS.out]) | (go_at_call 156; refine cQ.out.mono ?_))
    rintro e w3 ⟨rfl, v2, h1, h2⟩
    have hw3 : Hid (Wrote 204 b v (Lib.byteCells (l ++ vP 3 n s)) w w3) := ⟨v2, h1, hTS.out.trans h2⟩
    clear h1 h2
    go_wp2_with fail
    exact bodyPost_end (v := .tuple #[]) (results_none (by kernel_rfl) _ _ _) rfl ⟨rfl, hw3.out⟩
end Go.Proofs.YtehcbicngbibgaaGreatDoor

/- value.Text of a plain value; show.quoted. -/
namespace Go.Proofs.YtehcbicngbibgaaGreatDoor
open Go Go.RowKit
set_option maxHeartbeats 2000000 in
set_option maxRecDepth 100000 in
theorem valText_any (κ n : Int) (s : ByteArray) (la fa : Option Addr) (ln lc fn fc : Nat) (el : Int) (key : ByteArray) (hk : Bool) (F : List Fld) (w : World) (hE : Env w) (h : FLs w w.heap.size F fa fn) (hκ : κ = 1 ∨ κ = 2 ∨ κ = 3) (hn : (Lit.int .i64 n).wf = true) (hp : plainP κ n s ln fn el key hk = true) (hs : s.size ≤ 4096) :
    Calls Tryz.prog 88 #[.agg #[.int .u8 κ, .int .i64 n, .string s, .slice la ln lc, .slice fa fn fc, .int .u8 el, .string key, .bool hk]] w fun e w' => e = .returned (.string (bs (vP κ n s))) ∧ Below w.heap.size w w' := by
  have hz := plain_empty hp
  obtain ⟨z, hzz⟩ : ∃ z, z = vP κ n s := ⟨_, rfl⟩
  rw [← hzz]
  replace hzz := Lib.hid hzz
  have hks : key.size ≤ 140737488355328 := by
    have hp2 := hp
    unfold plainP restB at hp2
    simp only [Bool.and_eq_true, decide_eq_true_eq] at hp2
    omega
  obtain ⟨S, hS⟩ : ∃ S, S = w.alloc (.cells #[.int .u8 κ, .int .i64 n, .string s, .slice la ln lc, .slice fa fn fc, .int .u8 el, .string key, .bool hk] 59) := ⟨_, rfl⟩
  have hbS : Below w.heap.size w S := by rw [hS]; exact (Below.refl _ _).alloc (Nat.le_refl _) _
  have hrS : S.heap[w.heap.size]? = some (.cells #[.int .u8 κ, .int .i64 n, .string s, .slice la ln lc, .slice fa fn fc, .int .u8 el, .string key, .bool hk] 59 (0, 0)) := by rw [hS]; exact heap_alloc_new w _
  have hzS : S.heap.size = w.heap.size + 1 := by rw [hS]; simp
  have x0 : S.cell? ⟨w.heap.size, 0, none⟩ = some (.int .u8 κ) := by simp [World.cell?, hrS]
  have x1 : S.cell? ⟨w.heap.size, 1, none⟩ = some (.int .i64 n) := by simp [World.cell?, hrS]
  have x2 : S.cell? ⟨w.heap.size, 2, none⟩ = some (.string s) := by simp [World.cell?, hrS]
  have x3 : S.cell? ⟨w.heap.size, 3, none⟩ = some (.slice la ln lc) := by simp [World.cell?, hrS]
  have x4 : S.cell? ⟨w.heap.size, 4, none⟩ = some (.slice fa fn fc) := by simp [World.cell?, hrS]
  have x5 : S.cell? ⟨w.heap.size, 5, none⟩ = some (.int .u8 el) := by simp [World.cell?, hrS]
  have x6 : S.cell? ⟨w.heap.size, 6, none⟩ = some (.string key) := by simp [World.cell?, hrS]
  have x7 : S.cell? ⟨w.heap.size, 7, none⟩ = some (.bool hk) := by simp [World.cell?, hrS]
  have hWS : Hid (S = _) := hS
  replace hrS := Lib.hid hrS
  clear hS
  have cC := valCheck_any κ n s la fa ln lc fn fc el key hk F S hκ (by omega) (by omega) hks (h.later hbS)
  rw [hp] at cC
  have hES : Env S := hE.kept hbS
  clear hz
  replace h := Lib.hid h
  replace cC := Lib.hid cC
  replace hbS := Lib.hid hbS
  replace hES := Lib.hid hES
  go_enter Tryz.func88, Tryz.ntmps88
  go_wp2_with (first | (rw [← hWS.out]) | (go_at_call 83; refine cC.out.mono ?_))
  first | rintro e w3 rfl hb3 | rintro e w3 ⟨rfl, hb3⟩
  have hz3 := hb3.size
  have y0 := (hb3.cell (p := ⟨w.heap.size, 0, none⟩) (by show w.heap.size < _; omega)).trans x0
  have y1 := (hb3.cell (p := ⟨w.heap.size, 1, none⟩) (by show w.heap.size < _; omega)).trans x1
  have y2 := (hb3.cell (p := ⟨w.heap.size, 2, none⟩) (by show w.heap.size < _; omega)).trans x2
  have y3 := (hb3.cell (p := ⟨w.heap.size, 3, none⟩) (by show w.heap.size < _; omega)).trans x3
  have y4 := (hb3.cell (p := ⟨w.heap.size, 4, none⟩) (by show w.heap.size < _; omega)).trans x4
  have y5 := (hb3.cell (p := ⟨w.heap.size, 5, none⟩) (by show w.heap.size < _; omega)).trans x5
  have y6 := (hb3.cell (p := ⟨w.heap.size, 6, none⟩) (by show w.heap.size < _; omega)).trans x6
  have y7 := (hb3.cell (p := ⟨w.heap.size, 7, none⟩) (by show w.heap.size < _; omega)).trans x7
  clear x0 x1 x2 x3 x4 x5 x6 x7
  obtain ⟨S4, hS4⟩ : ∃ S4, S4 = w3.alloc (.cells #[.pointer none, .slice none 0 0] 204) := ⟨_, rfl⟩
  have hb4 : Below w3.heap.size w3 S4 := by rw [hS4]; exact (Below.refl _ _).alloc (Nat.le_refl _) _
  have hz4 : S4.heap.size = w3.heap.size + 1 := by rw [hS4]; simp
  have hB4 : Bat 204 w3.heap.size (.slice none 0 0) (Lib.byteCells []) S4 := by rw [hS4]; exact Bat.new w3
  have x0 := (hb4.cell (p := ⟨w.heap.size, 0, none⟩) (by show w.heap.size < _; omega)).trans y0
  have x1 := (hb4.cell (p := ⟨w.heap.size, 1, none⟩) (by show w.heap.size < _; omega)).trans y1
  have x2 := (hb4.cell (p := ⟨w.heap.size, 2, none⟩) (by show w.heap.size < _; omega)).trans y2
  have x3 := (hb4.cell (p := ⟨w.heap.size, 3, none⟩) (by show w.heap.size < _; omega)).trans y3
  have x4 := (hb4.cell (p := ⟨w.heap.size, 4, none⟩) (by show w.heap.size < _; omega)).trans y4
  have x5 := (hb4.cell (p := ⟨w.heap.size, 5, none⟩) (by show w.heap.size < _; omega)).trans y5
  have x6 := (hb4.cell (p := ⟨w.heap.size, 6, none⟩) (by show w.heap.size < _; omega)).trans y6
  have x7 := (hb4.cell (p := ⟨w.heap.size, 7, none⟩) (by show w.heap.size < _; omega)).trans y7
  clear y0 y1 y2 y3 y4 y5 y6 y7
  have hE4 : Env S4 := (hES.out.kept hb3).kept hb4
  have hlow : Hid (Below w.heap.size w S4) := (hbS.out.trans (hb3.mono (by omega))).trans (hb4.mono (by omega))
  have cT := tell_any w3.heap.size (.slice none 0 0) [] κ n s la fa ln lc fn fc el key hk S4 hB4 hE4 hκ hn hp (by simp; omega)
  replace cT := Lib.hid cT
  replace hB4 := Lib.hid hB4
  replace hE4 := Lib.hid hE4
  replace hb3 := Lib.hid hb3
  replace hb4 := Lib.hid hb4
  replace hS4 := Lib.hid hS4
  have hz3' := Lib.hid hz3
  have hz4' := Lib.hid hz4
  have hzS' := Lib.hid hzS
  clear hz3 hz4 hzS
  go_wp2_with (first | (rw [← hS4.out]) | (go_at_call 137; refine cT.out.mono ?_))
  rintro e w5 ⟨rfl, v5, hB5, hT5⟩
  have hlow5 : Below w.heap.size w w5 := hlow.out.trans (hT5.low (by have := hz3'.out; have := hzS'.out; omega) (fun k hk => by cases hk) hlow.out.size)
  have hhigh : ∀ k, v5.ownBlock = some k → w.heap.size ≤ k := hT5.high (fun k hk => by cases hk) hlow.out.size
  rw [List.nil_append, ← hzz.out] at hB5
  have cS := text_any 204 w3.heap.size w.heap.size v5 z w5 hB5 hhigh
  replace cS := Lib.hid cS
  replace hlow5 := Lib.hid hlow5
  clear hB5 hT5 hhigh x0 x1 x2 x3 x4 x5 x6 x7
  go_wp2_with (go_at_call 22; refine cS.out.mono ?_)
  first | rintro e w6 rfl hb6 | rintro e w6 ⟨rfl, hb6⟩
  have hlow6 := Lib.hid (hlow5.out.trans hb6)
  clear hb6
  go_wp2_with fail
  go_ret
  exact ⟨rfl, hlow6.out⟩
set_option maxHeartbeats 2000000 in
set_option maxRecDepth 100000 in
theorem showQuoted_any (s : ByteArray) (w : World) (hE : Env w) (hs : s.size ≤ 4096) :
    Calls Tryz.prog 87 #[.string s] w fun e w' => e = .returned (.string (bs (quoteL s.data.toList))) ∧ Below w.heap.size w w' := by
  have cT := valText_any 3 0 s none none 0 0 0 0 0 ⟨#[]⟩ false [] w hE (LAt.none _ _ _) (by simp) (by decide) (by unfold plainP restB; simp [hs]; rfl) hs
  have e : vP 3 0 s = quoteL s.data.toList := rfl
  rw [e] at cT
  obtain ⟨z, hz⟩ : ∃ z, z = quoteL s.data.toList := ⟨_, rfl⟩
  rw [← hz] at cT ⊢
  replace hz := Lib.hid hz
  replace cT := Lib.hid cT
  replace hE := Lib.hid hE
  clear e
  go_enter Tryz.func87, Tryz.ntmps87
  go_wp2_with (go_at_call 88; refine cT.out.mono ?_)
  first | rintro e w6 rfl hb6 | rintro e w6 ⟨rfl, hb6⟩
  replace hb6 := Lib.hid hb6
  go_wp2_with fail
  go_ret
  exact ⟨rfl, hb6.out⟩
end Go.Proofs.YtehcbicngbibgaaGreatDoor
