/- The contract of the reference's word at a name, a number. -/
import Derived.Test.YtimdkdengdhglaaGreatDoorRefD
namespace Go.Proofs.YtimdkdengdhglaaGreatDoor
open Go Go.RowKit

set_option maxHeartbeats 8000000 in
set_option maxRecDepth 100000 in
theorem rword_name (l : List UInt8) (k : Nat) (c : UInt8) (r : List UInt8) (w : World) (hd : l.drop k = c :: r) (hlen : l.length ≤ 65536) (h40 : c ≠ 40) (h41 : c ≠ 41) (h34 : c ≠ 34) (hp : part c = true) :
    Calls Tryz.prog 84 #[.string (bs l), .int .i64 (k : Nat)] w (RWordPost l w (restL (c :: r))) := by
  obtain ⟨hrl, hdr⟩ := drop_len l k c r hd
  have hsz := bs_size l
  have hg : ∀ h, (bs l)[k]'h = c := fun h => (bs_get l k h).trans (drop_get l k c r hd (by omega))
  have t40 : ((c.toNat : Int) == 40) = false := u8_ne h40 40 rfl
  have t41 : ((c.toNat : Int) == 41) = false := u8_ne h41 41 rfl
  have t34 : ((c.toNat : Int) == 34) = false := u8_ne h34 34 rfl
  have hn := fun o => rnew w o
  replace hn := Lib.hid hn
  have cN : Hid (∀ W, Calls Tryz.prog 149 #[.int .u8 (c.toNat : Int)] W fun e w' => e = .returned (.bool (part c)) ∧ w' = W) := fun W => rname_any c W
  rw [hp] at cN
  obtain ⟨o, hO⟩ : ∃ o, o = restL (c :: r) := ⟨_, rfl⟩
  rw [← hO]
  unfold restL at hO
  have htd := tw_dw part (c :: r)
  have htk := take_tw part (c :: r)
  obtain ⟨x, hx⟩ : ∃ x, x = (c :: r).takeWhile part := ⟨_, rfl⟩
  obtain ⟨rest, hrest⟩ : ∃ y, y = (c :: r).dropWhile part := ⟨_, rfl⟩
  have cR : Hid (∀ W, Calls Tryz.prog 150 #[.string (bs l), .int .i64 (k : Nat)] W fun e w' => e = .returned (.int .i64 ((k + x.length : Nat) : Int)) ∧ w' = W) := fun W => by
    have := rrun_any l k W (by omega) (by omega)
    rw [hd, ← hx] at this
    exact this
  rw [← hx, ← hrest] at hO htd
  rw [← hx] at htk
  obtain ⟨x', hx'⟩ : ∃ x', x = c :: x' := ⟨r.takeWhile part, by rw [hx, List.takeWhile_cons, if_pos hp]⟩
  have cM0 : Hid (∀ W, Calls Tryz.prog 152 #[.string (bs x)] W (NumPost x W)) := fun W => rnumber_any x W (by simp at htd; omega)
  obtain ⟨n, hxn⟩ : ∃ n, x.length = n := ⟨_, rfl⟩
  rw [hxn] at cR htd
  have hnr : n + k ≤ l.length := by simp at htd; omega
  have hn1 : 1 ≤ n := by rw [← hxn, hx']; simp
  have he : ((l.length - rest.length : Nat) : Int) = (k : Int) + n := by simp at htd; omega
  have hXsz : (bs x).size = n := by rw [bs_size, hxn]
  have hext : (bs l).extract k (k + n) = bs x := by
    apply ba_ext
    have h1 : (bs l).extract k (k + n) = bs ((l.drop k).take n) := by
      apply ba_ext; simp [bs, List.take_drop]
    rw [h1, hd, ← hxn, htk]
  have hgx0 : ∀ h, (bs x)[0]'h = c := fun h => by rw [bs_get]; simp [hx']
  have hgx1 : Hid (∀ (d : UInt8) (t : List UInt8), x' = d :: t → ∀ h, (bs x)[1]'h = d) := fun d t e h => by rw [bs_get]; simp [hx', e]
  have hxne : Hid (x ≠ []) := fun e => by rw [e] at hx'; simp at hx'
  have hXx : Hid (∃ _ : Unit, True) := ⟨(), trivial⟩
  clear hXx
  obtain ⟨X, hXx⟩ : ∃ X, X = bs x := ⟨_, rfl⟩
  rw [← hXx] at cM0 hXsz hext hgx0 hgx1
  replace hXx := Lib.hid hXx
  replace he := Lib.hid he
  replace hxn := Lib.hid hxn
  generalize bs l = S at *
  clear hd h40 h41 h34 hp htk htd hdr hrest hx
  by_cases hdc : digitB c = true
  · have hnum : isNum x = true := by rw [hx']; exact isNum_digit hdc
    replace hx' := Lib.hid hx'
    go_enter Tryz.func84, Tryz.ntmps84
    rw [hnum] at hO
    simp only [if_true] at hO
    replace hO := Lib.hid hO
    have cM : Hid (∀ W, Calls Tryz.prog 152 #[.string X] W (NumPost x W)) := cM0
    go_wp2_with (first | (go_at_call 149; refine (cN.out _).mono ?_; rintro e w' ⟨rfl, rfl⟩) | (go_at_call 150; refine (cR.out _).mono ?_; rintro e w' ⟨rfl, rfl⟩) | (go_at_call 151; refine (rdigit_any _ _).mono ?_; rintro e w' ⟨rfl, rfl⟩) | (go_at_call 152; refine (cM.out _).mono ?_))
    rintro e W' ⟨rfl, v, ok, rfl, hno⟩
    replace hno := Lib.hid hno
    go_wp2
    refine rword_end 2 ⟨#[]⟩ v _ ok rfl rfl rfl rfl (heap_alloc_new w _) ⟨hn.out _, ?_⟩
    rw [hO.out]
    rcases hno.out with ⟨rfl, h7⟩ | ⟨rfl, h7⟩
    · rw [h7, Option.map_some]; dsimp only; rw [he.out]; first | rfl | (simp [bs]; done)
    · rw [h7, Option.map_none]; exact ⟨_, _, _, _, rfl⟩
  · have hdc' : digitB c = false := by simpa using hdc
    clear hdc
    by_cases h45 : c = 45
    · have t45 : ((c.toNat : Int) == 45) = true := by rw [h45]; rfl
      cases x' with
      | nil =>
        have hnum : isNum x = false := by rw [hx', h45]; rfl
        have hn1' : n = 1 := by rw [← hxn.out, hx']; rfl
        have tl : decide ((1 : Int) < (n : Int)) = false := by simp; omega
        replace hx' := Lib.hid hx'
        replace h45 := Lib.hid h45
        replace hn1' := Lib.hid hn1'
        go_enter Tryz.func84, Tryz.ntmps84
        rw [hnum] at hO
        simp only [Bool.false_eq_true, if_false] at hO
        replace hO := Lib.hid hO
        clear cM0
        by_cases h4 : n ≤ 4096
        · have hle : decide ((n : Int) ≤ 4096) = true := by simp; omega
          go_wp2_with (first | (go_at_call 149; refine (cN.out _).mono ?_; rintro e w' ⟨rfl, rfl⟩) | (go_at_call 150; refine (cR.out _).mono ?_; rintro e w' ⟨rfl, rfl⟩) | (go_at_call 151; refine (rdigit_any _ _).mono ?_; rintro e w' ⟨rfl, rfl⟩))
          refine rword_end 1 X 0 _ true rfl rfl rfl rfl (heap_alloc_new w _) ⟨hn.out _, ?_⟩
          rw [hO.out, if_pos ⟨hxne.out, by rw [hxn.out]; exact h4⟩]; dsimp only; rw [he.out, hXx.out]
        · have hle : decide ((n : Int) ≤ 4096) = false := by simp; omega
          go_wp2_with (first | (go_at_call 149; refine (cN.out _).mono ?_; rintro e w' ⟨rfl, rfl⟩) | (go_at_call 150; refine (cR.out _).mono ?_; rintro e w' ⟨rfl, rfl⟩) | (go_at_call 151; refine (rdigit_any _ _).mono ?_; rintro e w' ⟨rfl, rfl⟩))
          refine rword_end 1 X 0 _ false rfl rfl rfl rfl (heap_alloc_new w _) ⟨hn.out _, ?_⟩
          rw [hO.out, if_neg (fun e => h4 (by rw [← hxn.out]; exact e.2))]; exact ⟨_, _, _, _, rfl⟩
      | cons d t =>
        have hg1 : ∀ h, X[1]'h = d := fun h => hgx1.out d t rfl h
        have hn2 : 1 < n := by rw [← hxn.out, hx']; simp
        have tl : decide ((1 : Int) < (n : Int)) = true := by simp; omega
        by_cases hdd : digitB d = true
        · have hnum : isNum x = true := by rw [hx', h45, isNum_minus]; exact hdd
          replace hx' := Lib.hid hx'
          replace h45 := Lib.hid h45
          go_enter Tryz.func84, Tryz.ntmps84
          rw [hnum] at hO
          simp only [if_true] at hO
          replace hO := Lib.hid hO
          have cM : Hid (∀ W, Calls Tryz.prog 152 #[.string X] W (NumPost x W)) := cM0
          go_wp2_with (first | (go_at_call 149; refine (cN.out _).mono ?_; rintro e w' ⟨rfl, rfl⟩) | (go_at_call 150; refine (cR.out _).mono ?_; rintro e w' ⟨rfl, rfl⟩) | (go_at_call 151; refine (rdigit_any _ _).mono ?_; rintro e w' ⟨rfl, rfl⟩) | (go_at_call 152; refine (cM.out _).mono ?_))
          rintro e W' ⟨rfl, v, ok, rfl, hno⟩
          replace hno := Lib.hid hno
          go_wp2
          refine rword_end 2 ⟨#[]⟩ v _ ok rfl rfl rfl rfl (heap_alloc_new w _) ⟨hn.out _, ?_⟩
          rw [hO.out]
          rcases hno.out with ⟨rfl, h7⟩ | ⟨rfl, h7⟩
          · rw [h7, Option.map_some]; dsimp only; rw [he.out]; first | rfl | (simp [bs]; done)
          · rw [h7, Option.map_none]; exact ⟨_, _, _, _, rfl⟩
        · have hdd' : digitB d = false := by simpa using hdd
          have hnum : isNum x = false := by rw [hx', h45, isNum_minus]; exact hdd'
          replace hx' := Lib.hid hx'
          replace h45 := Lib.hid h45
          clear hdd
          go_enter Tryz.func84, Tryz.ntmps84
          rw [hnum] at hO
          simp only [Bool.false_eq_true, if_false] at hO
          replace hO := Lib.hid hO
          clear cM0
          by_cases h4 : n ≤ 4096
          · have hle : decide ((n : Int) ≤ 4096) = true := by simp; omega
            go_wp2_with (first | (go_at_call 149; refine (cN.out _).mono ?_; rintro e w' ⟨rfl, rfl⟩) | (go_at_call 150; refine (cR.out _).mono ?_; rintro e w' ⟨rfl, rfl⟩) | (go_at_call 151; refine (rdigit_any _ _).mono ?_; rintro e w' ⟨rfl, rfl⟩))
            refine rword_end 1 X 0 _ true rfl rfl rfl rfl (heap_alloc_new w _) ⟨hn.out _, ?_⟩
            rw [hO.out, if_pos ⟨hxne.out, by rw [hxn.out]; exact h4⟩]; dsimp only; rw [he.out, hXx.out]
          · have hle : decide ((n : Int) ≤ 4096) = false := by simp; omega
            go_wp2_with (first | (go_at_call 149; refine (cN.out _).mono ?_; rintro e w' ⟨rfl, rfl⟩) | (go_at_call 150; refine (cR.out _).mono ?_; rintro e w' ⟨rfl, rfl⟩) | (go_at_call 151; refine (rdigit_any _ _).mono ?_; rintro e w' ⟨rfl, rfl⟩))
            refine rword_end 1 X 0 _ false rfl rfl rfl rfl (heap_alloc_new w _) ⟨hn.out _, ?_⟩
            rw [hO.out, if_neg (fun e => h4 (by rw [← hxn.out]; exact e.2))]; exact ⟨_, _, _, _, rfl⟩
    · have t45 : ((c.toNat : Int) == 45) = false := u8_ne h45 45 rfl
      have hnum : isNum x = false := by rw [hx']; exact isNum_other hdc' h45
      replace hx' := Lib.hid hx'
      clear h45
      go_enter Tryz.func84, Tryz.ntmps84
      rw [hnum] at hO
      simp only [Bool.false_eq_true, if_false] at hO
      replace hO := Lib.hid hO
      clear cM0
      by_cases h4 : n ≤ 4096
      · have hle : decide ((n : Int) ≤ 4096) = true := by simp; omega
        go_wp2_with (first | (go_at_call 149; refine (cN.out _).mono ?_; rintro e w' ⟨rfl, rfl⟩) | (go_at_call 150; refine (cR.out _).mono ?_; rintro e w' ⟨rfl, rfl⟩) | (go_at_call 151; refine (rdigit_any _ _).mono ?_; rintro e w' ⟨rfl, rfl⟩))
        refine rword_end 1 X 0 _ true rfl rfl rfl rfl (heap_alloc_new w _) ⟨hn.out _, ?_⟩
        rw [hO.out, if_pos ⟨hxne.out, by rw [hxn.out]; exact h4⟩]; dsimp only; rw [he.out, hXx.out]
      · have hle : decide ((n : Int) ≤ 4096) = false := by simp; omega
        go_wp2_with (first | (go_at_call 149; refine (cN.out _).mono ?_; rintro e w' ⟨rfl, rfl⟩) | (go_at_call 150; refine (cR.out _).mono ?_; rintro e w' ⟨rfl, rfl⟩) | (go_at_call 151; refine (rdigit_any _ _).mono ?_; rintro e w' ⟨rfl, rfl⟩))
        refine rword_end 1 X 0 _ false rfl rfl rfl rfl (heap_alloc_new w _) ⟨hn.out _, ?_⟩
        rw [hO.out, if_neg (fun e => h4 (by rw [← hxn.out]; exact e.2))]; exact ⟨_, _, _, _, rfl⟩
end Go.Proofs.YtimdkdengdhglaaGreatDoor
