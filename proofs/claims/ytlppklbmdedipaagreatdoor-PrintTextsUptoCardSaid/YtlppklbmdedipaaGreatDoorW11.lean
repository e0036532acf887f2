/- PrintTexts, part 11. -/
import Derived.Test.YtlppklbmdedipaaGreatDoorW02
import Derived.Test.YtlppklbmdedipaaGreatDoorW10
namespace Go.Proofs.YtlppklbmdedipaaGreatDoor
open Go Go.RowKit
set_option maxHeartbeats 8000000
set_option maxRecDepth 100000
theorem rbool {a b : Bool} (h : a = b) : Ending.returned (.bool a) = .returned (.bool b) := by rw [h]
theorem headNum_c {c : UInt8} {r : List UInt8} (h : Lx.digitB c = true) : headNum (c :: r) = true := by
 unfold Lx.digitB at h; simp only [headNum, h, Bool.true_or]
theorem headNum_d {d : UInt8} {r : List UInt8} (h : Lx.digitB d = true) : headNum (45 :: d :: r) = true := by
 unfold headNum; unfold Lx.digitB at h; simp only [h]; rfl
theorem headNum_d' {d : UInt8} {r : List UInt8} (h : Lx.digitB d = false) : headNum (45 :: d :: r) = false := by
 unfold headNum; unfold Lx.digitB at h; simp only [h]; rfl
theorem headNum_c' {c : UInt8} {r : List UInt8} (h : Lx.digitB c = false) (h2 : c ≠ 45) : headNum (c :: r) = false := by
 unfold Lx.digitB at h; simp only [headNum, h, Bool.false_or]; simp [h2]
theorem toL (s : ByteArray) : s.toList = s.data.toList := ByteArray.toList_eq _
theorem rplain_any (s : ByteArray) (w : World) : Calls Tryz.prog 64 #[.string s] w fun e w' => e = .returned (.bool (!fours.contains s.data.toList)) ∧ w' = w := by
 go_enter Tryz.func64, Tryz.ntmps64
 go_wp2_with fail
 all_goals
  go_ret
  refine ⟨rbool ?_, rfl⟩
  simp only [toL] at *
  generalize s.data.toList = l at *
  rw [Bool.eq_iff_iff]
  simp only [fours, List.contains_cons, List.contains_nil, Bool.or_false]
  simp_all
theorem rname03_any (l : List UInt8) (w : World) (hl : l.length ≤ 140737488355328) : Calls Tryz.prog 63 #[.string (bs l)] w fun e w' => e = .returned (.bool (nameL l)) ∧ w' = w := by
 have hsz : Hid ((bs l).size = l.length) := bs_size l
 have hgg : Hid (∀ (k : Nat) (hk : k < l.length) (h : k < (bs l).size), (bs l)[k]'h = l[k]'hk) := fun k hk h => bs_get l k h
 generalize bs l = S at *
 by_cases h0 : l.length = 0
 ·have z : (S.size : Int) = 0 := by rw [hsz.out]; omega
  have z' : S.size = 0 := by rw [hsz.out]; omega
  have hno : Hid (nameL l = false) := by show _ = _; unfold nameL; simp [h0]
  go_enter Tryz.func63, Tryz.ntmps63
  go_wp2_with (go_at_call 95; refine (Lx.rdigit_any _ _).mono ?_; rintro e w9 ⟨rfl, hw9⟩; obtain rfl := hw9.symm)
  all_goals go_ret
  all_goals exact ⟨rbool hno.out.symm, rfl⟩
 have zp : ¬ (S.size : Int) = 0 := by rw [hsz.out]; omega
 have zb : ((S.size : Int) == 0) = false := by simpa using zp
 have zp' : 0 < S.size := by rw [hsz.out]; omega
 by_cases h1 : 4096 < l.length
 ·have z1 : (4096 : Int) < (S.size : Int) := by rw [hsz.out]; omega
  have hno : Hid (nameL l = false) := by show _ = _; unfold nameL; simp; intro _ h; omega
  go_enter Tryz.func63, Tryz.ntmps63
  go_wp2_with (go_at_call 95; refine (Lx.rdigit_any _ _).mono ?_; rintro e w9 ⟨rfl, hw9⟩; obtain rfl := hw9.symm)
  all_goals go_ret
  all_goals exact ⟨rbool hno.out.symm, rfl⟩
 have z1 : ¬ (4096 : Int) < (S.size : Int) := by rw [hsz.out]; omega
 have hx0 := hgg.out 0 (by omega) zp'
 obtain ⟨c, r, hcr⟩ : ∃ c r, l = c :: r := by
  cases l with
  | nil => simp at h0
  | cons c r => exact ⟨c, r, rfl⟩
 have hxc : l[0]'(by omega) = c := by simp [hcr]
 rw [hxc] at hx0
 clear hxc
 cases hd : Lx.digitB c with
 | true =>
  replace hcr := hi_ hcr
  have hno : Hid (nameL l = false) := by show _ = _; unfold nameL; rw [hcr.out, headNum_c hd]; simp
  have hd9 := Lx.rdigit_any c w
  rw [hd] at hd9
  replace hd := hi_ hd
  replace hd9 := hi_ hd9
  go_enter Tryz.func63, Tryz.ntmps63
  go_wp2_with (go_at_call 95; refine hd9.out.mono ?_; rintro e w9 ⟨rfl, hw9⟩; obtain rfl := hw9.symm)
  all_goals go_ret
  all_goals exact ⟨rbool hno.out.symm, rfl⟩
 | false =>
  have hd9 := Lx.rdigit_any c w
  rw [hd] at hd9
  replace hd9 := hi_ hd9
  by_cases e45 : c = 45
  ·subst e45
   cases r with
   | nil =>
    have z2 : ¬ (1 : Int) < (S.size : Int) := by rw [hsz.out, hcr]; simp
    have hhn : Hid (headNum l = false) := by show _ = _; rw [hcr]; decide
    replace hcr := hi_ hcr
    replace hd := hi_ hd
    go_enter Tryz.func63, Tryz.ntmps63
    go_wp2_with (go_at_call 95; refine hd9.out.mono ?_; rintro e w9 ⟨rfl, hw9⟩; obtain rfl := hw9.symm)
    go_loop [3] (fun i => ∃ k : Nat, k ≤ l.length ∧ i = .int .i64 (k : Nat) ∧ (l.take k).all Lx.part = true) (fun i => l.length - (intOf i).toNat)
    case atStart => exact ⟨0, Nat.zero_le _, rfl, by simp⟩
    case round =>
     obtain ⟨k, hk, rfl, hall⟩ := hrel
     replace hall := hi_ hall
     clear z2 hx0 hd9
     by_cases hlt : k < l.length
     ·have hlt9 : Hid (k + 1 ≤ l.length) := hlt
      have hltS : (k : Int) < (S.size : Int) := by rw [hsz.out]; omega
      have hltN : k < S.size := by rw [hsz.out]; omega
      have hx := hgg.out k hlt hltN
      obtain ⟨x, hxx⟩ : ∃ x, x = l[k]'hlt := ⟨_, rfl⟩
      rw [← hxx] at hx
      have htk : Hid (l.take (k + 1) = l.take k ++ [x]) := by
       show _ = _
       rw [List.take_succ_eq_append_getElem hlt, hxx]
      replace hxx := hi_ hxx
      have cN := Lx.rname_any x w
      cases hp : Lx.part x with
      | true =>
       rw [hp] at cN
       replace hp := hi_ hp
       replace cN := hi_ cN
       go_wp2_with (go_at_call 96; refine cN.out.mono ?_; rintro e w9 ⟨rfl, hw9⟩; obtain rfl := hw9.symm)
       go_round
       case rel => exact ⟨k + 1, hlt9.out, by go_num, by rw [htk.out, List.all_append, hall.out]; simp [hp.out]⟩
       case measure => simp [intOf]; have := hlt9.out; omega
      | false =>
       rw [hp] at cN
       have hne : Hid (nameL l = false) := by
        show _ = _
        have : l.all Lx.part = false := by
         rw [List.all_eq_false]
         exact ⟨x, by rw [hxx.out]; exact List.getElem_mem _, by simp [hp]⟩
        unfold nameL; rw [this]; simp
       replace hp := hi_ hp
       replace cN := hi_ cN
       go_wp2_with (go_at_call 96; refine cN.out.mono ?_; rintro e w9 ⟨rfl, hw9⟩; obtain rfl := hw9.symm)
       go_ret
       exact ⟨rbool hne.out.symm, rfl⟩
     ·have hge : ¬ (k : Int) < (S.size : Int) := by rw [hsz.out]; omega
      have hgeN : ¬ k < S.size := by rw [hsz.out]; omega
      have hyes : Hid (nameL l = true) := by
       show _ = _
       have h9 := hall.out
       rw [List.take_of_length_le (by omega)] at h9
       unfold nameL; rw [h9, hhn.out]; simp; omega
      go_wp2_with fail
      go_ret
      exact ⟨rbool hyes.out.symm, rfl⟩
   | cons d r =>
    have z2 : (1 : Int) < (S.size : Int) := by rw [hsz.out, hcr]; simp; omega
    have z2' : 1 < S.size := by rw [hsz.out, hcr]; simp
    have hx1 := hgg.out 1 (by rw [hcr]; simp) z2'
    have hxd : l[1]'(by rw [hcr]; simp) = d := by simp [hcr]
    rw [hxd] at hx1
    clear hxd
    have hd8 := Lx.rdigit_any d w
    cases hdd : Lx.digitB d with
    | true =>
     rw [hdd] at hd8
     replace hd8 := hi_ hd8
     replace hcr := hi_ hcr
     replace hd := hi_ hd
     have hno : Hid (nameL l = false) := by show _ = _; unfold nameL; rw [hcr.out, headNum_d hdd]; simp
     replace hdd := hi_ hdd
     go_enter Tryz.func63, Tryz.ntmps63
     go_wp2_with (go_at_call 95; (first | refine hd9.out.mono ?_ | refine hd8.out.mono ?_); rintro e w9 ⟨rfl, hw9⟩; obtain rfl := hw9.symm)
     all_goals go_ret
     all_goals exact ⟨rbool hno.out.symm, rfl⟩
    | false =>
     rw [hdd] at hd8
     replace hd8 := hi_ hd8
     have hhn : Hid (headNum l = false) := by
      show _ = _
      rw [hcr]; exact headNum_d' hdd
     replace hcr := hi_ hcr
     replace hd := hi_ hd
     replace hdd := hi_ hdd
     go_enter Tryz.func63, Tryz.ntmps63
     go_wp2_with (go_at_call 95; (first | refine hd9.out.mono ?_ | refine hd8.out.mono ?_); rintro e w9 ⟨rfl, hw9⟩; obtain rfl := hw9.symm)
     go_loop [3] (fun i => ∃ k : Nat, k ≤ l.length ∧ i = .int .i64 (k : Nat) ∧ (l.take k).all Lx.part = true) (fun i => l.length - (intOf i).toNat)
     case atStart => exact ⟨0, Nat.zero_le _, rfl, by simp⟩
     case round =>
      obtain ⟨k, hk, rfl, hall⟩ := hrel
      replace hall := hi_ hall
      clear z2 z2' hx0 hx1 hd9 hd8
      by_cases hlt : k < l.length
      ·have hlt9 : Hid (k + 1 ≤ l.length) := hlt
       have hltS : (k : Int) < (S.size : Int) := by rw [hsz.out]; omega
       have hltN : k < S.size := by rw [hsz.out]; omega
       have hx := hgg.out k hlt hltN
       obtain ⟨x, hxx⟩ : ∃ x, x = l[k]'hlt := ⟨_, rfl⟩
       rw [← hxx] at hx
       have htk : Hid (l.take (k + 1) = l.take k ++ [x]) := by
        show _ = _
        rw [List.take_succ_eq_append_getElem hlt, hxx]
       replace hxx := hi_ hxx
       have cN := Lx.rname_any x w
       cases hp : Lx.part x with
       | true =>
        rw [hp] at cN
        replace hp := hi_ hp
        replace cN := hi_ cN
        go_wp2_with (go_at_call 96; refine cN.out.mono ?_; rintro e w9 ⟨rfl, hw9⟩; obtain rfl := hw9.symm)
        go_round
        case rel => exact ⟨k + 1, hlt9.out, by go_num, by rw [htk.out, List.all_append, hall.out]; simp [hp.out]⟩
        case measure => simp [intOf]; have := hlt9.out; omega
       | false =>
        rw [hp] at cN
        have hne : Hid (nameL l = false) := by
         show _ = _
         have : l.all Lx.part = false := by
          rw [List.all_eq_false]
          exact ⟨x, by rw [hxx.out]; exact List.getElem_mem _, by simp [hp]⟩
         unfold nameL; rw [this]; simp
        replace hp := hi_ hp
        replace cN := hi_ cN
        go_wp2_with (go_at_call 96; refine cN.out.mono ?_; rintro e w9 ⟨rfl, hw9⟩; obtain rfl := hw9.symm)
        go_ret
        exact ⟨rbool hne.out.symm, rfl⟩
      ·have hge : ¬ (k : Int) < (S.size : Int) := by rw [hsz.out]; omega
       have hgeN : ¬ k < S.size := by rw [hsz.out]; omega
       have hyes : Hid (nameL l = true) := by
        show _ = _
        have h9 := hall.out
        rw [List.take_of_length_le (by omega)] at h9
        unfold nameL; rw [h9, hhn.out]; simp; omega
       go_wp2_with fail
       go_ret
       exact ⟨rbool hyes.out.symm, rfl⟩
  ·have e45' : ((c.toNat : Int) == 45) = false := by
    rw [Bool.eq_false_iff]; simp; intro e; exact e45 (UInt8.toNat_inj.1 (by simp; omega))
   have hhn : Hid (headNum l = false) := by
    show _ = _
    rw [hcr]; exact headNum_c' hd e45
   replace hcr := hi_ hcr
   replace hd := hi_ hd
   replace e45 := hi_ e45
   go_enter Tryz.func63, Tryz.ntmps63
   go_wp2_with (go_at_call 95; refine hd9.out.mono ?_; rintro e w9 ⟨rfl, hw9⟩; obtain rfl := hw9.symm)
   go_loop [3] (fun i => ∃ k : Nat, k ≤ l.length ∧ i = .int .i64 (k : Nat) ∧ (l.take k).all Lx.part = true) (fun i => l.length - (intOf i).toNat)
   case atStart => exact ⟨0, Nat.zero_le _, rfl, by simp⟩
   case round =>
    obtain ⟨k, hk, rfl, hall⟩ := hrel
    replace hall := hi_ hall
    clear e45' hx0 hd9
    by_cases hlt : k < l.length
    ·have hlt9 : Hid (k + 1 ≤ l.length) := hlt
     have hltS : (k : Int) < (S.size : Int) := by rw [hsz.out]; omega
     have hltN : k < S.size := by rw [hsz.out]; omega
     have hx := hgg.out k hlt hltN
     obtain ⟨x, hxx⟩ : ∃ x, x = l[k]'hlt := ⟨_, rfl⟩
     rw [← hxx] at hx
     have htk : Hid (l.take (k + 1) = l.take k ++ [x]) := by
      show _ = _
      rw [List.take_succ_eq_append_getElem hlt, hxx]
     replace hxx := hi_ hxx
     have cN := Lx.rname_any x w
     cases hp : Lx.part x with
     | true =>
      rw [hp] at cN
      replace hp := hi_ hp
      replace cN := hi_ cN
      go_wp2_with (go_at_call 96; refine cN.out.mono ?_; rintro e w9 ⟨rfl, hw9⟩; obtain rfl := hw9.symm)
      go_round
      case rel => exact ⟨k + 1, hlt9.out, by go_num, by rw [htk.out, List.all_append, hall.out]; simp [hp.out]⟩
      case measure => simp [intOf]; have := hlt9.out; omega
     | false =>
      rw [hp] at cN
      have hne : Hid (nameL l = false) := by
       show _ = _
       have : l.all Lx.part = false := by
        rw [List.all_eq_false]
        exact ⟨x, by rw [hxx.out]; exact List.getElem_mem _, by simp [hp]⟩
       unfold nameL; rw [this]; simp
      replace hp := hi_ hp
      replace cN := hi_ cN
      go_wp2_with (go_at_call 96; refine cN.out.mono ?_; rintro e w9 ⟨rfl, hw9⟩; obtain rfl := hw9.symm)
      go_ret
      exact ⟨rbool hne.out.symm, rfl⟩
    ·have hge : ¬ (k : Int) < (S.size : Int) := by rw [hsz.out]; omega
     have hgeN : ¬ k < S.size := by rw [hsz.out]; omega
     have hyes : Hid (nameL l = true) := by
      show _ = _
      have h9 := hall.out
      rw [List.take_of_length_le (by omega)] at h9
      unfold nameL; rw [h9, hhn.out]; simp; omega
     go_wp2_with fail
     go_ret
     exact ⟨rbool hyes.out.symm, rfl⟩
theorem rname_any (s : ByteArray) (w : World) (hs : s.size ≤ 140737488355328) : Calls Tryz.prog 35 #[.string s] w fun e w' => e = .returned (.bool (nameP s)) ∧ w' = w := by
 have c1 := rname03_any s.data.toList w (by rw [← size_list]; exact hs)
 rw [bs_toList] at c1
 have c2 := rplain_any s w
 have hV : nameP s = (nameL s.data.toList && !fours.contains s.data.toList) := rfl
 generalize nameL s.data.toList = x at *
 generalize fours.contains s.data.toList = y at *
 replace c1 := hi_ c1
 replace c2 := hi_ c2
 replace hV := hi_ hV
 cases x
 all_goals
  go_enter Tryz.func35, Tryz.ntmps35
  go_wp2_with (first | (go_at_call 63; refine c1.out.mono ?_; rintro e w9 ⟨rfl, hw9⟩; obtain rfl := hw9.symm) | (go_at_call 64; refine c2.out.mono ?_; rintro e w9 ⟨rfl, hw9⟩; obtain rfl := hw9.symm))
  go_ret
  exact ⟨rbool (by rw [hV.out]; simp), rfl⟩
theorem plain_fits {t : RS} {s : ByteArray} (h : FitR (t.plain s)) : FitR (t.must (nameP s)) := Nat.le_trans (((RS.Le.refl (t.must (nameP s))).put s.data.toList).lo) h
theorem plain_R (w0 : World) (B b : Nat) (t : RS) (s : ByteArray) (hs : s.size ≤ 140737488355328) : DoesR w0 B b 18 #[.pointer (some ⟨b, 0, none⟩), .string s] t (t.plain s) := by
 intro bx w h hF
 have c1 := rname_any s w hs
 have c2 := must_R w0 B b t (nameP s) bx w h (plain_fits hF)
 have c3 : ∀ w3, RK w0 B b (t.must (nameP s)) bx w3 → Calls Tryz.prog 17 #[.pointer (some ⟨b, 0, none⟩), .string s] w3 fun e w' => e = .returned (.tuple #[]) ∧ RK w0 B b (t.plain s) bx w' := fun w3 h3 => by
  have := put_R w0 B b (t.must (nameP s)) s.data.toList bx w3 h3 hF
  rwa [bs_toList] at this
 replace c1 := hi_ c1
 replace c2 := hi_ c2
 replace c3 := hi_ c3
 replace h := hi_ h
 clear hF
 go_enter Tryz.func18, Tryz.ntmps18
 go_wp2_with (first | (go_at_call 35; refine c1.out.mono ?_; rintro e w9 ⟨rfl, hw9⟩; obtain rfl := hw9.symm) | (go_at_call 34; refine c2.out.mono ?_))
 first | rintro e w3 rfl h3 | rintro e w3 ⟨rfl, h3⟩
 have c4 := hi_ (c3.out w3 h3)
 replace h3 := hi_ h3
 go_wp2_with (go_at_call 17; refine c4.out.mono ?_)
 first | rintro e w4 rfl h4 | rintro e w4 ⟨rfl, h4⟩
 replace h4 := hi_ h4
 go_wp2_with fail
 exact bodyPost_end (v := .tuple #[]) (results_none (by kernel_rfl) _ _ _) rfl ⟨rfl, h4.out⟩
def keyVals : Array Value := #[.string ⟨#[105, 102]⟩, .string ⟨#[101, 97, 99, 104]⟩, .string ⟨#[114, 101, 97, 100]⟩, .string ⟨#[116, 104, 114, 111, 119]⟩, .string ⟨#[114, 101, 99]⟩, .string ⟨#[100, 111]⟩, .string ⟨#[104, 111, 115, 116]⟩, .string ⟨#[110, 101, 119]⟩, .string ⟨#[112, 117, 114, 101]⟩, .string ⟨#[102, 114, 97, 103]⟩, .string ⟨#[112, 111, 114, 116, 97, 108]⟩, .string ⟨#[103, 105, 118, 101]⟩, .string ⟨#[103, 117, 97, 114, 100]⟩, .string ⟨#[119, 97, 105, 116]⟩]
theorem key_at (k : Nat) (h : k < 14) : keyVals[k]? = some (.string (bs (keysL[k]'h))) := by
 have : ∀ k : Fin 14, keyVals[k.val]? = some (.string (bs (keysL[k.val]'k.isLt))) := by
  intro k
  match k with
  | ⟨0, _⟩ | ⟨1, _⟩ | ⟨2, _⟩ | ⟨3, _⟩ | ⟨4, _⟩ | ⟨5, _⟩ | ⟨6, _⟩ | ⟨7, _⟩ | ⟨8, _⟩ | ⟨9, _⟩ | ⟨10, _⟩ | ⟨11, _⟩ | ⟨12, _⟩ | ⟨13, _⟩ => rfl
 exact this ⟨k, h⟩
theorem rkey_any (s : ByteArray) (w : World) : Calls Tryz.prog 66 #[.string s] w fun e w' => e = .returned (.bool (keyP s)) ∧ Below w.heap.size w w' := by
 obtain ⟨S, hS⟩ : ∃ S, S = w.alloc (.cells A8_ 9) := ⟨_, rfl⟩
 have hbS : Below w.heap.size w S := by rw [hS]; exact (Below.refl _ _).alloc (Nat.le_refl _) _
 have hrS : S.heap[w.heap.size]? = some (.cells keyVals 9 (0, 0)) := by rw [hS]; exact heap_alloc_new w _
 have hcell : Hid (∀ k, (h : k < 14) → S.cell? ⟨w.heap.size, k, none⟩ = some (.string (bs (keysL[k]'h)))) := fun k h => by
  rw [show S.cell? ⟨w.heap.size, k, none⟩ = keyVals[k]? by simp [World.cell?, hrS]]
  exact key_at k h
 have hWS : Hid (S = _) := hS
 replace hrS := hi_ hrS
 replace hbS := hi_ hbS
 clear hS
 go_enter Tryz.func66, Tryz.ntmps66
 go_wp2_with (rw [← hWS.out])
 go_loop [4] (fun i => ∃ k : Nat, k ≤ 14 ∧ i = .int .i64 (k : Nat) ∧ (keysL.take k).contains s.data.toList = false) (fun i => 14 - (intOf i).toNat)
 case atStart => exact ⟨0, by omega, rfl, rfl⟩
 case round =>
  obtain ⟨k, hk, rfl, hno⟩ := hrel
  by_cases hlt : k < 14
  ·have x0 := hcell.out k hlt
   obtain ⟨y, hy⟩ : ∃ y, y = keysL[k]'hlt := ⟨_, rfl⟩
   rw [← hy] at x0
   have htk : keysL.take (k + 1) = keysL.take k ++ [y] := by rw [List.take_succ_eq_append_getElem hlt, hy]
   have hmem : y ∈ keysL := by rw [hy]; exact List.getElem_mem _
   have hbl : (bs y).toList = y := by rw [ByteArray.toList_eq]; rfl
   replace hy := hi_ hy
   replace htk := hi_ htk
   replace hno := hi_ hno
   have hstr : ((bs y).toList == s.toList) = (y == s.data.toList) := by rw [hbl, ByteArray.toList_eq]
   by_cases e : y = s.data.toList
   ·have hyes : Hid (keyP s = true) := by
     show _ = _
     unfold keyP; rw [List.contains_iff_mem, ← e]; exact hmem
    have e2 : (bs y).toList = s.toList := by rw [hbl, ByteArray.toList_eq]; exact e
    have e3 : ((bs y).toList == s.toList) = true := by simpa using e2
    replace e := hi_ e
    clear hstr hmem hbl
    go_wp2_with fail
    all_goals go_ret
    all_goals exact ⟨rbool hyes.out.symm, hbS.out⟩
   ·have hno2 : Hid ((keysL.take (k + 1)).contains s.data.toList = false) := by
     show _ = _
     rw [htk.out, List.contains_append, hno.out]
     simp; exact fun h => e h.symm
    have e2 : ¬ (bs y).toList = s.toList := by rw [hbl, ByteArray.toList_eq]; exact e
    have e3 : ((bs y).toList == s.toList) = false := by simpa using e2
    replace e := hi_ e
    clear hstr hmem hbl
    go_wp2_with fail
    go_round
    case rel => exact ⟨k + 1, by omega, by go_num, hno2.out⟩
    case measure => simp [intOf]; omega
  ·obtain rfl : k = 14 := by omega
   have hno2 : Hid (keyP s = false) := hno
   clear hno
   go_wp2_with fail
   all_goals go_ret
   all_goals exact ⟨rbool hno2.out.symm, hbS.out⟩
def PC (b : Nat) (t : PS) (v : Value) (cs : Array Value) : Prop := (∃ p, (p = .pointer none ∨ p = .pointer (some ⟨b, 0, none⟩)) ∧ cs = #[p, v, .bool t.be, .bool t.bad, .string t.name, .int .i64 t.deeds]) ∧ (Lit.int .i64 t.deeds).wf = true ∧ t.name.size ≤ 140737488355328 ∧ (t.l = [] → v = .slice none 0 0)
abbrev PK (w0 : World) (B b : Nat) (t : PS) (bx : Bx) (w : World) : Prop := Kit w0 B 41 b (PC b t) t.l bx w
def FitP (t : PS) : Prop := t.l.length ≤ 1073741824
def DoesP (w0 : World) (B b : Nat) (k : Nat) (args : Array Value) (t t' : PS) : Prop :=
 ∀ bx w, PK w0 B b t bx w → FitP t' → Calls Tryz.prog k args w fun e w' => e = .returned (.tuple #[]) ∧ PK w0 B b t' bx w'
theorem PK.cells {w0 : World} {B b : Nat} {t : PS} {bx : Bx} {w : World} (h : PK w0 B b t bx w) : ∃ p v, (p = .pointer none ∨ p = .pointer (some ⟨b, 0, none⟩)) ∧ w.heap[b]? = some (.cells #[p, v, .bool t.be, .bool t.bad, .string t.name, .int .i64 t.deeds] 41 (0, 0)) ∧ w.ownsRow B 5 1 v t.l.length (Lib.byteCells t.l) ∧ v.ownBlock ≠ some b ∧ (t.l = [] → v = .slice none 0 0) ∧ (∀ x ∈ bx, some x.1 ≠ v.ownBlock) ∧ (Lit.int .i64 t.deeds).wf = true ∧ t.name.size ≤ 140737488355328 := by
 obtain ⟨v, cs, ⟨⟨p, hp, rfl⟩, h1, h1', h1''⟩, h2, h3, h4, h5⟩ := h.ex
 exact ⟨p, v, hp, h2, h3, h4, h1'', fun x hx => (h5 x hx).2.2.2.1, h1, h1'⟩
theorem own_to {w : World} {base base' : Nat} {e : TypeId} {size : Nat} {v : Value} {n : Nat} {xs : List Value} (h : w.ownsRow base e size v n xs) (hb : ∀ k, v.ownBlock = some k → base' ≤ k) : w.ownsRow base' e size v n xs := by
 refine ⟨h.1, h.2.imp id ?_⟩
 rintro ⟨g, cap, cur, rfl, _, r⟩
 exact ⟨g, cap, cur, rfl, hb g rfl, r⟩
theorem PK.bat {w0 : World} {B b : Nat} {t : PS} {bx : Bx} {w : World} (h : PK w0 B b t bx w) : ∃ v, Pr.Bat t 41 b v (Lib.byteCells t.l) w ∧ (∀ k, v.ownBlock = some k → B ≤ k) ∧ ∀ x, Pr.Wrote t 41 b v (Lib.byteCells t.l ++ Lib.byteCells x) w = Pr.Wrote t 41 b v (Lib.byteCells (t.l ++ x)) w ∧ ∀ w', Pr.Wrote t 41 b v (Lib.byteCells (t.l ++ x)) w w' → PK w0 B b { t with l := t.l ++ x } bx w' := by
 have hle := h.le
 have hsz := h.size
 have hlow := h.low
 obtain ⟨_, _, _, _, _, _, hbx⟩ := h.ex
 obtain ⟨p, v, hp, hb, hown, hne, hnil, hfar, hd, hn⟩ := h.cells
 have hvB : ∀ k, v.ownBlock = some k → B ≤ k := fun k hk => (hown.lt k hk).1
 refine ⟨v, ⟨⟨p, hp, hb⟩, ?_, hne, fun e => hnil ?_⟩, hvB, fun x => ⟨by rw [byte_app], fun w' hw => ?_⟩⟩
 ·have := own_to hown (base' := 0) (fun _ _ => Nat.zero_le _)
  rwa [← Lib.byteCells_length t.l] at this
 ·have := congrArg List.length e
  rw [Lib.byteCells_length] at this
  exact List.eq_nil_of_length_eq_zero this
 ·obtain ⟨v', ⟨⟨p', hp', hb'⟩, ho', hne', hnil'⟩, ht⟩ := hw
  rw [Lib.byteCells_length] at ho'
  have hv'B := ht.high hvB hsz
  refine ⟨⟨v', _, ⟨⟨p', hp', rfl⟩, hd, hn, fun e => hnil' ?_⟩, hb', own_to ho' hv'B, hne', fun y hy => ?_⟩, h.pw, h.le, hlow.trans (ht.low hle hvB hsz), h.sz, h.env, h.und⟩
  ·have e' : t.l ++ x = [] := e
   rw [e']; rfl
  ·obtain ⟨_, _, _, _, _, _, hbx'⟩ := h.ex
   obtain ⟨f1, f2, f3, _, f5⟩ := hbx' y hy
   have f4 := hfar y hy
   refine ⟨Nat.lt_of_lt_of_le f1 ht.size, f2, f3, ?_, (ht.block _ f1 f3 f4).trans f5⟩
   rcases ht.loc with e | ⟨g, e, hg⟩
   ·rw [e]; exact f4
   ·rw [e]; intro e2; injection e2 with e2; omega
theorem wbyte_P (w0 : World) (B b : Nat) (t : PS) (c : UInt8) (bx : Bx) (w : World) (h : PK w0 B b t bx w) (hF : t.l.length + 1 ≤ 1073741824) :
  Calls Tryz.prog 33 #[.pointer (some ⟨b, 0, none⟩), .int .u8 (c.toNat : Int)] w fun e w' => e = .returned .nilIface ∧ PK w0 B b { t with l := t.l ++ [c] } bx w' := by
 obtain ⟨v, h1, _, h2⟩ := h.bat
 have := Pr.byte_any t 41 b Pr.heads_print v (Lib.byteCells t.l) (c.toNat : Int) w h1 (by rw [Lib.byteCells_length]; exact hF)
 exact this.mono fun e w' ⟨a, hw⟩ => ⟨a, (h2 [c]).2 w' (by rw [byte_app]; exact hw)⟩
theorem wstr_P (w0 : World) (B b : Nat) (t : PS) (s : List UInt8) (bx : Bx) (w : World) (h : PK w0 B b t bx w) (hF : t.l.length + s.length ≤ 1073741824) :
  Calls Tryz.prog 49 #[.pointer (some ⟨b, 0, none⟩), .string (bs s)] w fun e w' => e = .returned (.tuple #[.int .i64 (bs s).size, .nilIface]) ∧ PK w0 B b { t with l := t.l ++ s } bx w' := by
 obtain ⟨v, h1, _, h2⟩ := h.bat
 have := Pr.str_any t 41 b Pr.heads_print v (Lib.byteCells t.l) (bs s) w h1 (by rw [Lib.byteCells_length, bs_size]; exact hF)
 refine this.mono fun e w' ⟨a, hw⟩ => ⟨a, (h2 s).2 w' ?_⟩
 rw [byte_app]
 have e : Lib.strCells (bs s) = Lib.byteCells s := by simp [Lib.strCells, Lib.byteCells, bs]
 rw [← e]; exact hw
theorem must_P (w0 : World) (B b : Nat) (t : PS) (ok : Bool) : DoesP w0 B b 51 #[.pointer (some ⟨b, 0, none⟩), .bool ok] t (t.must ok) := by
 intro bx w h _
 obtain ⟨p, v, _, hb, _⟩ := PK.cells h
 have c1 : w.cell? ⟨b, 3, none⟩ = some (.bool t.bad) := by simp [World.cell?, hb]
 have f1 : w.frozen? ⟨b, 3, none⟩ = false := fz_ hb
 have hfin : ∀ z, z = (t.bad || !ok) → PK w0 B b (t.must ok) bx (w.setCell ⟨b, 3, none⟩ (.bool z)) := fun z hz => h.head 3 _ (by
  rintro v cs ⟨⟨p, hp, rfl⟩, h2⟩
  exact ⟨⟨p, hp, by rw [hz]; rfl⟩, h2⟩)
 replace hfin := hi_ hfin
 replace h := hi_ h
 replace hb := hi_ hb
 generalize t.bad = x at *
 cases x <;> cases ok
 all_goals
  go_enter Tryz.func51, Tryz.ntmps51
  go_wp2_with fail
  exact bodyPost_end (v := .tuple #[]) (results_none (by kernel_rfl) _ _ _) rfl ⟨rfl, hfin.out _ rfl⟩
theorem be_K {w0 : World} {B b : Nat} {t : PS} {bx : Bx} {w : World} (h : PK w0 B b t bx w) (z : Bool) : PK w0 B b { t with be := z } bx (w.setCell ⟨b, 2, none⟩ (.bool z)) := h.head 2 _ (by
  rintro v cs ⟨⟨p, hp, rfl⟩, h2⟩
  exact ⟨⟨p, hp, rfl⟩, h2⟩)
theorem put_P (w0 : World) (B b : Nat) (t : PS) (s : List UInt8) : DoesP w0 B b 27 #[.pointer (some ⟨b, 0, none⟩), .string (bs s)] t (t.put s) := by
 intro bx w h hF
 have hFL : (t.put s).l.length ≤ 1073741824 := hF
 obtain ⟨p, v, _, hb, _⟩ := PK.cells h
 have c1 : w.cell? ⟨b, 2, none⟩ = some (.bool t.be) := by simp [World.cell?, hb]
 clear hb
 cases hbe : t.be with
 | false =>
  rw [hbe] at c1
  have hl : t.l.length + s.length ≤ 1073741824 := by unfold PS.put at hFL; rw [hbe] at hFL; simpa using hFL
  have cS := hi_ (wstr_P w0 B b t s bx w h hl)
  have hEq : Hid (t.put s = { ({ t with l := t.l ++ s } : PS) with be := true }) := by show _ = _; unfold PS.put; rw [hbe]; rfl
  replace h := hi_ h
  replace hbe := hi_ hbe
  clear hF hFL hl
  go_enter Tryz.func27, Tryz.ntmps27
  go_wp2_with (go_at_call 49; refine cS.out.mono ?_)
  first | rintro e w3 rfl h3 | rintro e w3 ⟨rfl, h3⟩
  have frwq : w3.frozen? ⟨b, 2, none⟩ = false := by obtain ⟨_, _, _, hq, _⟩ := PK.cells h3; simp [World.frozen?, hq]
  have clwq : ∃ zz, w3.cell? ⟨b, 2, none⟩ = some (.bool zz) := by obtain ⟨_, _, _, hq, _⟩ := PK.cells h3; exact ⟨_, by simp [World.cell?, hq]; rfl⟩
  obtain ⟨zzwq, clwq⟩ := clwq
  have h4 := hi_ (be_K h3 true)
  replace h3 := hi_ h3
  go_wp2_with fail
  exact bodyPost_end (v := .tuple #[]) (results_none (by kernel_rfl) _ _ _) rfl ⟨rfl, by rw [hEq.out]; exact h4.out⟩
 | true =>
  rw [hbe] at c1
  have hl : t.l.length + 1 + s.length ≤ 1073741824 := by unfold PS.put at hFL; rw [hbe] at hFL; simp at hFL; omega
  have cB := hi_ (wbyte_P w0 B b t 32 bx w h (by omega))
  have cS := hi_ (fun W hW => wstr_P w0 B b { t with l := t.l ++ [32] } s bx W hW (by simp; omega))
  have hEq : Hid (t.put s = { ({ t with l := t.l ++ [32] ++ s } : PS) with be := true }) := by show _ = _; unfold PS.put; rw [hbe]; rfl
  replace h := hi_ h
  replace hbe := hi_ hbe
  clear hF hFL hl
  go_enter Tryz.func27, Tryz.ntmps27
  go_wp2_with (go_at_call 33; refine cB.out.mono ?_)
  first | rintro e w2 rfl h2 | rintro e w2 ⟨rfl, h2⟩
  have cSa := hi_ (cS.out w2 h2)
  replace h2 := hi_ h2
  clear c1
  go_wp2_with (go_at_call 49; refine cSa.out.mono ?_)
  first | rintro e w3 rfl h3 | rintro e w3 ⟨rfl, h3⟩
  have frwq : w3.frozen? ⟨b, 2, none⟩ = false := by obtain ⟨_, _, _, hq, _⟩ := PK.cells h3; simp [World.frozen?, hq]
  have clwq : ∃ zz, w3.cell? ⟨b, 2, none⟩ = some (.bool zz) := by obtain ⟨_, _, _, hq, _⟩ := PK.cells h3; exact ⟨_, by simp [World.cell?, hq]; rfl⟩
  obtain ⟨zzwq, clwq⟩ := clwq
  have h4 := hi_ (be_K h3 true)
  replace h3 := hi_ h3
  go_wp2_with fail
  exact bodyPost_end (v := .tuple #[]) (results_none (by kernel_rfl) _ _ _) rfl ⟨rfl, by rw [hEq.out]; exact h4.out⟩
theorem round_P (w0 : World) (B b : Nat) (K : Nat) (caps : Array Value) (t : PS) (f : PS → PS) (bx : Bx) (w : World) (eg : ∀ args w, (callFunc K args).run Tryz.prog w = .ok (.enter K args) w)
  (hlo : t.open_.l.length ≤ (f t.open_).l.length) (hf : ∀ W, PK w0 B b t.open_ bx W → Calls Tryz.prog K caps W fun e w' => e = .returned (.tuple #[]) ∧ PK w0 B b (f t.open_) bx w')
  (h : PK w0 B b t bx w) (hF : FitP (PS.round f t)) :
  Calls Tryz.prog 25 #[.pointer (some ⟨b, 0, none⟩), .func (.func K) #[] caps] w fun e w' => e = .returned (.tuple #[]) ∧ PK w0 B b (PS.round f t) bx w' := by
 have hFL : (f t.open_).l.length + 1 ≤ 1073741824 := by have := hF; unfold FitP PS.round PS.fin at this; simpa using this
 have c1 := hi_ (put_P w0 B b t [40] bx w h (by have : (t.put [40]).l.length ≤ 1073741824 := (by (have e : (t.put [40]).l = t.open_.l := rfl); rw [e]; omega); exact this))
 have c3 := hi_ (fun W hW => wbyte_P w0 B b (f t.open_) 41 bx W hW hFL)
 replace h := hi_ h
 replace hf := hi_ hf
 clear hF hFL hlo
 go_enter Tryz.func25, Tryz.ntmps25
 go_wp2_with (go_at_call 27; refine c1.out.mono ?_)
 first | rintro e w1 rfl h1 | rintro e w1 ⟨rfl, h1⟩
 have frwq : w1.frozen? ⟨b, 2, none⟩ = false := by obtain ⟨_, _, _, hq, _⟩ := PK.cells h1; simp [World.frozen?, hq]
 have clwq : ∃ zz, w1.cell? ⟨b, 2, none⟩ = some (.bool zz) := by obtain ⟨_, _, _, hq, _⟩ := PK.cells h1; exact ⟨_, by simp [World.cell?, hq]; rfl⟩
 obtain ⟨zzwq, clwq⟩ := clwq
 have h2 := be_K h1 false
 obtain ⟨W2, hW2⟩ : ∃ W2, W2 = w1.setCell ⟨b, 2, none⟩ (.bool false) := ⟨_, rfl⟩
 rw [← hW2] at h2
 have cK := hi_ (hf.out W2 h2)
 have hW2' : Hid (W2 = _) := hW2
 clear hW2
 replace h1 := hi_ h1
 replace h2 := hi_ h2
 go_wp2_with (first | (rw [← hW2'.out]) | (go_at_fn K; refine cK.out.mono ?_))
 first | rintro e w3 rfl h3 | rintro e w3 ⟨rfl, h3⟩
 clear frwq clwq
 replace h3 := hi_ h3
 go_wp2_with (go_at_call 33; refine (c3.out w3 h3.out).mono ?_)
 first | rintro e w4 rfl h4 | rintro e w4 ⟨rfl, h4⟩
 have frwr : w4.frozen? ⟨b, 2, none⟩ = false := by obtain ⟨_, _, _, hq, _⟩ := PK.cells h4; simp [World.frozen?, hq]
 have clwr : ∃ zz, w4.cell? ⟨b, 2, none⟩ = some (.bool zz) := by obtain ⟨_, _, _, hq, _⟩ := PK.cells h4; exact ⟨_, by simp [World.cell?, hq]; rfl⟩
 obtain ⟨zzwr, clwr⟩ := clwr
 have h5 := hi_ (be_K h4 true)
 replace h4 := hi_ h4
 go_wp2_with fail
 exact bodyPost_end (v := .tuple #[]) (results_none (by kernel_rfl) _ _ _) rfl ⟨rfl, h5.out⟩
end Go.Proofs.YtlppklbmdedipaaGreatDoor

namespace Go.Proofs.YtlppklbmdedipaaGreatDoor
open Go
set_option maxHeartbeats 8000000
set_option maxRecDepth 100000
def oneB (o : Except (Nat × Nat) (List (Nat × List UInt8 × Int × Nat))) (l : List UInt8) : Bool := match o with
 | .ok [(k, s, _, _)] => decide (k = 1) && decide (s = l)
 | _ => false
theorem head_part {c : UInt8} (h : Lx.part c = true) : Lx.idle c = false ∧ c ≠ 59 ∧ c ≠ 40 ∧ c ≠ 41 ∧ c ≠ 34 := by
 have key : ∀ n : Fin 256, Lx.part (UInt8.ofNat n.val) = true → Lx.idle (UInt8.ofNat n.val) = false ∧ UInt8.ofNat n.val ≠ 59 ∧ UInt8.ofNat n.val ≠ 40 ∧ UInt8.ofNat n.val ≠ 41 ∧ UInt8.ofNat n.val ≠ 34 := by decide +kernel
 have := key ⟨c.toNat, c.toNat_lt⟩
 simp only [UInt8.ofNat_toNat] at this
 exact this h
theorem kind_digit (c : UInt8) : (Lx.kindOf c == 2) = (decide (48 ≤ c.toNat) && decide (c.toNat ≤ 57)) := by
 unfold Lx.kindOf
 rw [Bool.eq_iff_iff]
 simp only [beq_iff_eq, Bool.and_eq_true, decide_eq_true_eq]
 repeat' split
 all_goals omega
theorem isNum_head (l : List UInt8) : Lx.isNum l = headNum l := by
 unfold Lx.isNum
 cases l with
 | nil => rfl
 | cons c r =>
  by_cases e : c = 45
  ·subst e
   have : Lib.trimPrefix (45 :: r) [45] = r := by simp [Lib.trimPrefix, Lib.hasPrefix, List.isPrefixOf]
   rw [this]
   cases r with
   | nil => rfl
   | cons d t => show (Lx.kindOf d == 2) = _; rw [kind_digit]; simp [headNum]
  ·have : Lib.trimPrefix (c :: r) [45] = c :: r := by
    simp [Lib.trimPrefix, Lib.hasPrefix, List.isPrefixOf, Ne.symm e]
   rw [this]
   show (Lx.kindOf c == 2) = _
   rw [kind_digit]
   simp [headNum, e]
theorem tw_whole {p : UInt8 → Bool} {l : List UInt8} (h : l.all p = true) : l.takeWhile p = l ∧ l.dropWhile p = [] := by
 induction l with
 | nil => exact ⟨rfl, rfl⟩
 | cons c r ih =>
  rw [List.all_cons, Bool.and_eq_true] at h
  simp [h.1, ih h.2]
theorem go_len : ∀ (f : Nat) (l : List UInt8) (ln : Nat) (acc ws : List (Nat × List UInt8 × Int × Nat)), Lx.wordsGo f l ln acc = .ok ws → acc.length ≤ ws.length ∧ (l ≠ [] → 0 < f → acc.length < ws.length)
 | 0, l, ln, acc, ws, h => by
  rw [Lx.wordsGo] at h
  injection h with h
  rw [h]; exact ⟨Nat.le_refl _, fun _ h0 => absurd h0 (by decide)⟩
 | f + 1, [], ln, acc, ws, h => by
  rw [Lx.wordsGo] at h
  injection h with h
  rw [h]; exact ⟨Nat.le_refl _, fun h0 => absurd rfl h0⟩
 | f + 1, c :: r, ln, acc, ws, h => by
  rw [Lx.wordsGo] at h
  try simp only at h
  split at h
  ·cases h
  ·have := (go_len f _ _ _ ws h).1
   rw [List.length_append, List.length_singleton] at this
   exact ⟨by omega, fun _ _ => by omega⟩
theorem oneB_eq (l : List UInt8) : oneB (Lx.wordsL l) l = nameL l := by
 rw [Bool.eq_iff_iff]
 constructor
 ·intro h
  unfold oneB at h
  split at h
  ·rename_i k s n ln hw
   rw [Bool.and_eq_true, decide_eq_true_eq, decide_eq_true_eq] at h
   obtain ⟨rfl, rfl⟩ := h
   unfold Lx.wordsL at hw
   split at hw
   ·cases hw
   ·split at hw
    ·rename_i ws hgo
     injection hw with hw
     subst hw
     have hsl := Lx.skipL_le s 0
     cases hm : (Lx.skipL s 0).1 with
     | nil => rw [hm, Lx.wordsGo] at hgo; cases hgo
     | cons c r =>
      rw [hm] at hgo hsl
      rw [Lx.wordsGo] at hgo
      try simp only at hgo
      split at hgo
      ·cases hgo
      ·rename_i k2 s2 n2 m2 hwd
       have hlen := (go_len _ _ _ _ _ hgo).1
       have hacc : ∀ (f : Nat) (l : List UInt8) (ln : Nat) (a : Nat × List UInt8 × Int × Nat) (b : Nat × List UInt8 × Int × Nat), Lx.wordsGo f l ln [a] = .ok [b] → a = b := by
        intro f
        induction f with
        | zero => intro l ln a b h; rw [Lx.wordsGo] at h; injection h with h; injection h
        | succ f ih =>
         intro l ln a b h
         cases l with
         | nil => rw [Lx.wordsGo] at h; injection h with h; injection h
         | cons x y =>
          rw [Lx.wordsGo] at h
          try simp only at h
          split at h
          ·cases h
          ·have := (go_len _ _ _ _ _ h).1
           simp at this
       have he := hacc _ _ _ _ _ hgo
       injection he with e1 e2
       injection e2 with e2 e3
       subst e1 e2
       rw [Lx.wordL] at hwd
       split at hwd
       ·simp at hwd
       ·split at hwd
        ·simp at hwd
        ·split at hwd
         ·cases hx : Lx.textL false r [] with
          | none => simp [hx] at hwd
          | some x =>
           simp only [hx, Option.bind_some] at hwd
           split at hwd <;> simp at hwd
         ·unfold Lx.restL at hwd
          split at hwd
          ·cases hv : Lx.numL ((c :: r).takeWhile Lx.part) with
           | none => simp [hv] at hwd
           | some v => simp [hv] at hwd
          ·rename_i hnum
           split at hwd
           ·rename_i hne
            simp only [Option.some.injEq, Prod.mk.injEq, true_and] at hwd
            have hs2 : (c :: r).takeWhile Lx.part = s2 := hwd.1
            have htl := Lx.tw_le Lx.part (c :: r)
            rw [hs2] at htl
            have hcr : (c :: r) = s2 := by
             have h1 := Lx.take_tw Lx.part (c :: r)
             rw [hs2] at h1
             have : s2.length = (c :: r).length := by simp only [List.length_cons] at *; omega
             rw [this, List.take_of_length_le (Nat.le_refl _)] at h1
             exact h1
            rw [hs2] at hnum hne
            have hall : s2.all Lx.part = true := by
             rw [List.all_eq_true]
             intro x hx
             rw [← hs2] at hx
             exact Lx.tw_all Lx.part _ x hx
            unfold nameL
            rw [isNum_head] at hnum
            simp only [Bool.not_eq_true] at hnum
            rw [hall, hnum]
            have h0 : 1 ≤ s2.length := by rw [← hcr]; simp
            simp [h0, hne.2]
           ·cases hwd
    ·cases hw
  ·cases h
 ·intro h
  unfold nameL at h
  simp only [Bool.and_eq_true, decide_eq_true_eq, Bool.not_eq_true'] at h
  obtain ⟨⟨⟨h1, h2⟩, h3⟩, h4⟩ := h
  obtain ⟨htw, hdw⟩ := tw_whole h4
  cases l with
  | nil => simp at h1
  | cons c r =>
   have hc : Lx.part c = true := by rw [List.all_cons, Bool.and_eq_true] at h4; exact h4.1
   obtain ⟨p1, p2, p3, p4, p5⟩ := head_part hc
   have hsk : Lx.skipL (c :: r) 0 = (c :: r, 0) := Lx.skipL_stop _ _ (by simp [p1]) (by simpa using p2)
   have hwd : Lx.wordL (c :: r) = some (1, c :: r, 0, []) := by
    rw [Lx.wordL, if_neg p3, if_neg p4, if_neg p5]
    unfold Lx.restL
    rw [htw, hdw, isNum_head, h3]
    rw [if_neg (by decide), if_pos ⟨by simp, h2⟩]
   have hskn : Lx.skipL ([] : List UInt8) 0 = ([], 0) := by rw [Lx.skipL]
   have hgo : Lx.wordsGo ((c :: r).length + 1) (c :: r) 0 [] = .ok [(1, c :: r, 0, 0)] := by
    rw [Lx.wordsGo]
    simp only [hwd, hskn, List.nil_append]
    rw [List.length_cons, Lx.wordsGo]
   unfold Lx.wordsL
   rw [if_neg (by omega), hsk]
   simp only [hgo]
   unfold oneB
   simp
end Go.Proofs.YtlppklbmdedipaaGreatDoor

namespace Go.Proofs.YtlppklbmdedipaaGreatDoor
open Go Go.RowKit
set_option maxHeartbeats 8000000
set_option maxRecDepth 100000
theorem rExs_append (A B : List Ex) : ∀ t, rExs (A ++ B) t = rExs B (rExs A t) := by
 induction A with
 | nil => intro t; rw [List.nil_append]; rfl
 | cons v r ih => intro t; rw [List.cons_append, rExs, rExs, ih]
theorem rAcs_append (A B : List Ac) : ∀ t, rAcs (A ++ B) t = rAcs B (rAcs A t) := by
 induction A with
 | nil => intro t; rw [List.nil_append]; rfl
 | cons v r ih => intro t; rw [List.cons_append, rAcs, rAcs, ih]
theorem rSts_append (A B : List St) : ∀ t, rSts (A ++ B) t = rSts B (rSts A t) := by
 induction A with
 | nil => intro t; rw [List.nil_append]; rfl
 | cons v r ih => intro t; rw [List.cons_append, rSts, rSts, ih]
theorem rCos_append (A B : List Co) : ∀ t, rCos (A ++ B) t = rCos B (rCos A t) := by
 induction A with
 | nil => intro t; rw [List.nil_append]; rfl
 | cons v r ih => intro t; rw [List.cons_append, rCos, rCos, ih]
theorem take_snoc {α : Type} {L : List α} {k : Nat} {v : α} (h : L[k]? = some v) : L.take (k + 1) = L.take k ++ [v] := by rw [List.take_add_one, h]; rfl
theorem rExs_snoc {L : List Ex} {k : Nat} {v : Ex} (h : L[k]? = some v) (t : RS) : rExs (L.take (k + 1)) t = rEx v (rExs (L.take k) t) := by rw [take_snoc h, rExs_append]; rfl
theorem rAcs_snoc {L : List Ac} {k : Nat} {v : Ac} (h : L[k]? = some v) (t : RS) : rAcs (L.take (k + 1)) t = rAc v (rAcs (L.take k) t) := by rw [take_snoc h, rAcs_append]; rfl
theorem rSts_snoc {L : List St} {k : Nat} {v : St} (h : L[k]? = some v) (t : RS) : rSts (L.take (k + 1)) t = rSt v (rSts (L.take k) t) := by rw [take_snoc h, rSts_append]; rfl
theorem rCos_snoc {L : List Co} {k : Nat} {v : Co} (h : L[k]? = some v) (t : RS) : rCos (L.take (k + 1)) t = rCo v (rCos (L.take k) t) := by rw [take_snoc h, rCos_append]; rfl
theorem rExs_cut (L : List Ex) (k : Nat) (t : RS) : rExs L t = rExs (L.drop k) (rExs (L.take k) t) := by rw [← rExs_append, List.take_append_drop]
theorem rAcs_cut (L : List Ac) (k : Nat) (t : RS) : rAcs L t = rAcs (L.drop k) (rAcs (L.take k) t) := by rw [← rAcs_append, List.take_append_drop]
theorem rSts_cut (L : List St) (k : Nat) (t : RS) : rSts L t = rSts (L.drop k) (rSts (L.take k) t) := by rw [← rSts_append, List.take_append_drop]
theorem rCos_cut (L : List Co) (k : Nat) (t : RS) : rCos L t = rCos (L.drop k) (rCos (L.take k) t) := by rw [← rCos_append, List.take_append_drop]
theorem oks_drop {L : List T} (h : oks L = true) (k : Nat) : oks (L.drop k) = true := oks_of fun t ht => oks_mem h t (List.mem_of_mem_drop ht)
theorem LAt.oks {w : World} {B K n : Nat} {es : List T} {a : Option Addr} (h : LAt w B K es a n) : oks es = true := by
 have := (h.at (cap := 0) 0).ok
 rwa [T.ok] at this
theorem ExAt.ok {w : World} {B : Nat} {v : Ex} {q : QEx} (h : ExAt w B v q) : v.tr.ok = true := h.at.ok
theorem FitR.of {t u : RS} {c : Nat} (h : FitR u) (k : RS.Le t u c) : FitR t := Nat.le_trans k.lo h
theorem FitR.put {t : RS} {s : List UInt8} (h : FitR (t.put s)) : FitR t := h.of ((RS.Le.refl t).put s)
theorem FitR.must {t : RS} {c : Bool} (h : FitR (t.must c)) : FitR t := h
theorem FitR.plain {t : RS} {s : ByteArray} (h : FitR (t.plain s)) : FitR t := h.of ((RS.Le.refl t).plain s)
theorem FitR.fin {t : RS} (h : FitR t.fin) : FitR t := h.of (RS.Le.refl t).fin
theorem FitR.ex {w : World} {B : Nat} {v : Ex} {q : QEx} (k : ExAt w B v q) {t : RS} (h : FitR (rEx v t)) : FitR t := h.of (rEx_le v k.ok t)
theorem FitR.exs {w : World} {B n : Nat} {L : List Ex} {a : Option Addr} (k : ExLs w B L a n) {t : RS} (h : FitR (rExs L t)) : FitR t := h.of (rExs_le L (fun v _ => rEx_le v) k.oks t)
theorem FitR.acs {w : World} {B n : Nat} {L : List Ac} {a : Option Addr} (k : AcLs w B L a n) {t : RS} (h : FitR (rAcs L t)) : FitR t := h.of (rAcs_le L (fun v _ => rAc_le v) k.oks t)
theorem FitR.sts {w : World} {B n : Nat} {L : List St} {a : Option Addr} (k : StLs w B L a n) {t : RS} (h : FitR (rSts L t)) : FitR t := h.of (rSts_le L (fun v _ => rSt_le v) k.oks t)
theorem FitR.pairs {w : World} {B n : Nat} {L : List Ex} {a : Option Addr} (k : ExLs w B L a n) {N : List ByteArray} {t : RS} (h : FitR (rPairs L N t)) : FitR t := h.of (rPairs_le L (fun v _ => rEx_le v) k.oks N t)
theorem FitR.exs_take {w : World} {B n : Nat} {L : List Ex} {a : Option Addr} (k : ExLs w B L a n) {t : RS} (h : FitR (rExs L t)) (j : Nat) : FitR (rExs (L.take j) t) := by
 rw [rExs_cut L j] at h
 exact h.of (rExs_le _ (fun v _ => rEx_le v) (by rw [List.map_drop]; exact oks_drop k.oks j) _)
theorem FitR.acs_take {w : World} {B n : Nat} {L : List Ac} {a : Option Addr} (k : AcLs w B L a n) {t : RS} (h : FitR (rAcs L t)) (j : Nat) : FitR (rAcs (L.take j) t) := by
 rw [rAcs_cut L j] at h
 exact h.of (rAcs_le _ (fun v _ => rAc_le v) (by rw [List.map_drop]; exact oks_drop k.oks j) _)
theorem FitR.sts_take {w : World} {B n : Nat} {L : List St} {a : Option Addr} (k : StLs w B L a n) {t : RS} (h : FitR (rSts L t)) (j : Nat) : FitR (rSts (L.take j) t) := by
 rw [rSts_cut L j] at h
 exact h.of (rSts_le _ (fun v _ => rSt_le v) (by rw [List.map_drop]; exact oks_drop k.oks j) _)
theorem FitR.cos_take {w : World} {B n : Nat} {L : List Co} {a : Option Addr} (k : CoLs w B L a n) {t : RS} (h : FitR (rCos L t)) (j : Nat) : FitR (rCos (L.take j) t) := by
 rw [rCos_cut L j] at h
 exact h.of (rCos_le _ (by rw [List.map_drop]; exact oks_drop k.oks j) _)
def ExR (w0 : World) (B b : Nat) (v : Ex) : Prop := ∀ (q : QEx) (t : RS), ExAt w0 B v q → DoesR w0 B b 20 #[.pointer (some ⟨b, 0, none⟩), .agg #[.int .u8 v.kind, .int .i64 v.n, .string v.s, .slice q.argsa q.argsn q.argsc, .slice q.namesa q.namesn q.namesc, .slice q.valsa q.valsn q.valsc, .int .u8 v.elem, .slice q.keya q.keyn q.keyc, .slice q.actsa q.actsn q.actsc, .string v.site]] t (rEx v t)
def AcR (w0 : World) (B b : Nat) (v : Ac) : Prop := ∀ (q : QAc) (t : RS), AcAt w0 B v q → DoesR w0 B b 97 #[.pointer (some ⟨b, 0, none⟩), .agg #[.int .u8 v.kind, .string v.name, .int .u8 v.expr.kind, .int .i64 v.expr.n, .string v.expr.s, .slice q.expr.argsa q.expr.argsn q.expr.argsc, .slice q.expr.namesa q.expr.namesn q.expr.namesc, .slice q.expr.valsa q.expr.valsn q.expr.valsc, .int .u8 v.expr.elem, .slice q.expr.keya q.expr.keyn q.expr.keyc, .slice q.expr.actsa q.expr.actsn q.expr.actsc, .string v.expr.site]] t (rAc v t)
def StR (w0 : World) (B b : Nat) (v : St) : Prop := ∀ (q : QSt) (t : RS), StAt w0 B v q → DoesR w0 B b 19 #[.pointer (some ⟨b, 0, none⟩), .agg #[.int .u8 v.kind, .string v.name, .string v.ctx, .int .u8 v.expr.kind, .int .i64 v.expr.n, .string v.expr.s, .slice q.expr.argsa q.expr.argsn q.expr.argsc, .slice q.expr.namesa q.expr.namesn q.expr.namesc, .slice q.expr.valsa q.expr.valsn q.expr.valsc, .int .u8 v.expr.elem, .slice q.expr.keya q.expr.keyn q.expr.keyc, .slice q.expr.actsa q.expr.actsn q.expr.actsc, .string v.expr.site, .slice q.depsa q.depsn q.depsc, .slice q.dosa q.dosn q.dosc, .slice q.undoa q.undon q.undoc, .slice q.bodya q.bodyn q.bodyc]] t (rSt v t)
def ExsR (w0 : World) (B b : Nat) (L : List Ex) : Prop := ∀ (a : Option Addr) (n c : Nat) (t : RS), ExLs w0 B L a n → DoesR w0 B b 37 #[.pointer (some ⟨b, 0, none⟩), .slice a n c] t (rExs L t)
theorem Exs_R (w0 : World) (B b : Nat) (L : List Ex) (hS : ∀ v ∈ L, ExR w0 B b v) : ExsR w0 B b L := by
 intro a n c t hL bx w h hF
 have hn := hL.len.2
 have hln := hL.len.1
 rw [List.length_map] at hln
 have hsz := h.sz
 have hbz := h.size
 replace h := hi_ h
 replace hF := hi_ hF
 replace hln := hi_ hln
 go_enter Tryz.func37, Tryz.ntmps37
 go_wp2_with fail
 go_loopw [4] (fun i wr => ∃ k : Nat, k ≤ n ∧ i = .int .i64 (k : Nat) ∧ RK w0 B b (rExs (L.take k) t) bx wr) (fun i _ => n - (intOf i).toNat)
 case atStart => exact ⟨0, Nat.zero_le _, rfl, h.out⟩
 case round =>
  obtain ⟨k, hk, rfl, hK⟩ := hrel
  by_cases hlt : k < n
  ·have hlt9 : Hid (k + 1 ≤ n) := hlt
   obtain ⟨b2, o2, v, q, rfl, hb2, hg2, hc2, hv2⟩ := ExLs.elem hL k hlt
   have hsn := hi_ (rExs_snoc hg2 t)
   have y0 : wr.cell? ⟨b2, o2 + k * 10, none⟩ = some (.int .u8 v.kind) := (hK.low.cell (p := ⟨b2, o2 + k * 10, none⟩) hb2).trans (hc2 0 (by omega))
   have y1 : wr.cell? ⟨b2, o2 + k * 10 + 1, none⟩ = some (.int .i64 v.n) := (hK.low.cell (p := ⟨b2, o2 + k * 10 + 1, none⟩) hb2).trans (by rw [Nat.add_assoc]; exact hc2 1 (by omega))
   have y2 : wr.cell? ⟨b2, o2 + k * 10 + 2, none⟩ = some (.string v.s) := (hK.low.cell (p := ⟨b2, o2 + k * 10 + 2, none⟩) hb2).trans (by rw [Nat.add_assoc]; exact hc2 2 (by omega))
   have y3 : wr.cell? ⟨b2, o2 + k * 10 + 3, none⟩ = some (.slice q.argsa q.argsn q.argsc) := (hK.low.cell (p := ⟨b2, o2 + k * 10 + 3, none⟩) hb2).trans (by rw [Nat.add_assoc]; exact hc2 3 (by omega))
   have y4 : wr.cell? ⟨b2, o2 + k * 10 + 4, none⟩ = some (.slice q.namesa q.namesn q.namesc) := (hK.low.cell (p := ⟨b2, o2 + k * 10 + 4, none⟩) hb2).trans (by rw [Nat.add_assoc]; exact hc2 4 (by omega))
   have y5 : wr.cell? ⟨b2, o2 + k * 10 + 5, none⟩ = some (.slice q.valsa q.valsn q.valsc) := (hK.low.cell (p := ⟨b2, o2 + k * 10 + 5, none⟩) hb2).trans (by rw [Nat.add_assoc]; exact hc2 5 (by omega))
   have y6 : wr.cell? ⟨b2, o2 + k * 10 + 6, none⟩ = some (.int .u8 v.elem) := (hK.low.cell (p := ⟨b2, o2 + k * 10 + 6, none⟩) hb2).trans (by rw [Nat.add_assoc]; exact hc2 6 (by omega))
   have y7 : wr.cell? ⟨b2, o2 + k * 10 + 7, none⟩ = some (.slice q.keya q.keyn q.keyc) := (hK.low.cell (p := ⟨b2, o2 + k * 10 + 7, none⟩) hb2).trans (by rw [Nat.add_assoc]; exact hc2 7 (by omega))
   have y8 : wr.cell? ⟨b2, o2 + k * 10 + 8, none⟩ = some (.slice q.actsa q.actsn q.actsc) := (hK.low.cell (p := ⟨b2, o2 + k * 10 + 8, none⟩) hb2).trans (by rw [Nat.add_assoc]; exact hc2 8 (by omega))
   have y9 : wr.cell? ⟨b2, o2 + k * 10 + 9, none⟩ = some (.string v.site) := (hK.low.cell (p := ⟨b2, o2 + k * 10 + 9, none⟩) hb2).trans (by rw [Nat.add_assoc]; exact hc2 9 (by omega))
   have cS := hi_ (hS v (List.mem_of_getElem? hg2) q _ hv2 bx wr hK (by rw [← hsn.out]; exact FitR.exs_take hL hF.out (k + 1)))
   rw [← hsn.out] at cS
   replace hK := hi_ hK
   clear hc2 hv2 hg2
   go_wp2_with (go_at_call 20; refine cS.out.mono ?_)
   first | rintro e w3 rfl hK3 | rintro e w3 ⟨rfl, hK3⟩
   replace hK3 := hi_ hK3
   go_wp2_with fail
   go_roundw
   case rel => exact ⟨k + 1, hlt9.out, by go_num, hK3.out⟩
   case measure => simp [intOf]; have := hlt9.out; omega
  ·obtain rfl : k = n := by omega
   have hfin : Hid (RK w0 B b (rExs L t) bx wr) := by
    rw [List.take_of_length_le (by rw [hln.out]; exact Nat.le_refl _)] at hK
    exact hK
   clear hK
   go_wp2_with fail
   exact bodyPost_end (v := .tuple #[]) (results_none (by kernel_rfl) _ _ _) rfl ⟨rfl, hfin.out⟩
def AcsR (w0 : World) (B b : Nat) (L : List Ac) : Prop := ∀ (a : Option Addr) (n c : Nat) (t : RS), AcLs w0 B L a n → DoesR w0 B b 65 #[.pointer (some ⟨b, 0, none⟩), .slice a n c] t (rAcs L t)
theorem Acs_R (w0 : World) (B b : Nat) (L : List Ac) (hS : ∀ v ∈ L, AcR w0 B b v) : AcsR w0 B b L := by
 intro a n c t hL bx w h hF
 have hn := hL.len.2
 have hln := hL.len.1
 rw [List.length_map] at hln
 have hsz := h.sz
 have hbz := h.size
 replace h := hi_ h
 replace hF := hi_ hF
 replace hln := hi_ hln
 go_enter Tryz.func65, Tryz.ntmps65
 go_wp2_with fail
 go_loopw [4] (fun i wr => ∃ k : Nat, k ≤ n ∧ i = .int .i64 (k : Nat) ∧ RK w0 B b (rAcs (L.take k) t) bx wr) (fun i _ => n - (intOf i).toNat)
 case atStart => exact ⟨0, Nat.zero_le _, rfl, h.out⟩
 case round =>
  obtain ⟨k, hk, rfl, hK⟩ := hrel
  by_cases hlt : k < n
  ·have hlt9 : Hid (k + 1 ≤ n) := hlt
   obtain ⟨b2, o2, v, q, rfl, hb2, hg2, hc2, hv2⟩ := AcLs.elem hL k hlt
   have hsn := hi_ (rAcs_snoc hg2 t)
   have y0 : wr.cell? ⟨b2, o2 + k * 12, none⟩ = some (.int .u8 v.kind) := (hK.low.cell (p := ⟨b2, o2 + k * 12, none⟩) hb2).trans (hc2 0 (by omega))
   have y1 : wr.cell? ⟨b2, o2 + k * 12 + 1, none⟩ = some (.string v.name) := (hK.low.cell (p := ⟨b2, o2 + k * 12 + 1, none⟩) hb2).trans (by rw [Nat.add_assoc]; exact hc2 1 (by omega))
   have y2 : wr.cell? ⟨b2, o2 + k * 12 + 2, none⟩ = some (.int .u8 v.expr.kind) := (hK.low.cell (p := ⟨b2, o2 + k * 12 + 2, none⟩) hb2).trans (by rw [Nat.add_assoc]; exact hc2 2 (by omega))
   have y3 : wr.cell? ⟨b2, o2 + k * 12 + 3, none⟩ = some (.int .i64 v.expr.n) := (hK.low.cell (p := ⟨b2, o2 + k * 12 + 3, none⟩) hb2).trans (by rw [Nat.add_assoc]; exact hc2 3 (by omega))
   have y4 : wr.cell? ⟨b2, o2 + k * 12 + 4, none⟩ = some (.string v.expr.s) := (hK.low.cell (p := ⟨b2, o2 + k * 12 + 4, none⟩) hb2).trans (by rw [Nat.add_assoc]; exact hc2 4 (by omega))
   have y5 : wr.cell? ⟨b2, o2 + k * 12 + 5, none⟩ = some (.slice q.expr.argsa q.expr.argsn q.expr.argsc) := (hK.low.cell (p := ⟨b2, o2 + k * 12 + 5, none⟩) hb2).trans (by rw [Nat.add_assoc]; exact hc2 5 (by omega))
   have y6 : wr.cell? ⟨b2, o2 + k * 12 + 6, none⟩ = some (.slice q.expr.namesa q.expr.namesn q.expr.namesc) := (hK.low.cell (p := ⟨b2, o2 + k * 12 + 6, none⟩) hb2).trans (by rw [Nat.add_assoc]; exact hc2 6 (by omega))
   have y7 : wr.cell? ⟨b2, o2 + k * 12 + 7, none⟩ = some (.slice q.expr.valsa q.expr.valsn q.expr.valsc) := (hK.low.cell (p := ⟨b2, o2 + k * 12 + 7, none⟩) hb2).trans (by rw [Nat.add_assoc]; exact hc2 7 (by omega))
   have y8 : wr.cell? ⟨b2, o2 + k * 12 + 8, none⟩ = some (.int .u8 v.expr.elem) := (hK.low.cell (p := ⟨b2, o2 + k * 12 + 8, none⟩) hb2).trans (by rw [Nat.add_assoc]; exact hc2 8 (by omega))
   have y9 : wr.cell? ⟨b2, o2 + k * 12 + 9, none⟩ = some (.slice q.expr.keya q.expr.keyn q.expr.keyc) := (hK.low.cell (p := ⟨b2, o2 + k * 12 + 9, none⟩) hb2).trans (by rw [Nat.add_assoc]; exact hc2 9 (by omega))
   have y10 : wr.cell? ⟨b2, o2 + k * 12 + 10, none⟩ = some (.slice q.expr.actsa q.expr.actsn q.expr.actsc) := (hK.low.cell (p := ⟨b2, o2 + k * 12 + 10, none⟩) hb2).trans (by rw [Nat.add_assoc]; exact hc2 10 (by omega))
   have y11 : wr.cell? ⟨b2, o2 + k * 12 + 11, none⟩ = some (.string v.expr.site) := (hK.low.cell (p := ⟨b2, o2 + k * 12 + 11, none⟩) hb2).trans (by rw [Nat.add_assoc]; exact hc2 11 (by omega))
   have cS := hi_ (hS v (List.mem_of_getElem? hg2) q _ hv2 bx wr hK (by rw [← hsn.out]; exact FitR.acs_take hL hF.out (k + 1)))
   rw [← hsn.out] at cS
   replace hK := hi_ hK
   clear hc2 hv2 hg2
   go_wp2_with (go_at_call 97; refine cS.out.mono ?_)
   first | rintro e w3 rfl hK3 | rintro e w3 ⟨rfl, hK3⟩
   replace hK3 := hi_ hK3
   go_wp2_with fail
   go_roundw
   case rel => exact ⟨k + 1, hlt9.out, by go_num, hK3.out⟩
   case measure => simp [intOf]; have := hlt9.out; omega
  ·obtain rfl : k = n := by omega
   have hfin : Hid (RK w0 B b (rAcs L t) bx wr) := by
    rw [List.take_of_length_le (by rw [hln.out]; exact Nat.le_refl _)] at hK
    exact hK
   clear hK
   go_wp2_with fail
   exact bodyPost_end (v := .tuple #[]) (results_none (by kernel_rfl) _ _ _) rfl ⟨rfl, hfin.out⟩
end Go.Proofs.YtlppklbmdedipaaGreatDoor
