/- The contract of the scanner's skip. -/
import Derived.Test.YtimdkdengdhglaaGreatDoorLexA
import Derived.Lib.OthersKept
namespace Go.Proofs.YtimdkdengdhglaaGreatDoor
open Go Go.RowKit

theorem Touch.iterAt {S : Nat → Prop} {a w : World} (h : Touch S a w) {k : Nat} (hk : a.heap.size ≤ k) (s : ByteArray) (pos : Nat) : Touch S a (w.iterAt k s pos) :=
  ⟨h.os, h.tape, h.output, by rw [Lib.iterAt_size]; exact h.size, fun i hi hS => (Lib.iterAt_other w k i s pos (by omega)).trans (h.block i hi hS)⟩
theorem Scan.iterAt {w : World} {b : Nat} {l : List UInt8} {ln : Int} (h : Scan w b l ln) {k : Nat} (hk : b ≠ k) (s : ByteArray) (pos : Nat) : Scan (w.iterAt k s pos) b l ln :=
  h.of_block (Lib.iterAt_other w k b s pos hk)
theorem iter_set {w : World} {k : Nat} {o : Obj} (h : w.heap[k]? = some o) {p : Addr} (hp : k ≠ p.block) (u : Value) : (w.setCell p u).heap[k]? = some o :=
  (Below.heap_setCell w p u k hp).trans h

/-- The bytes of what is idle are small. -/
theorem idle_small (c : UInt8) (h : idle c = true) : c.toNat < 128 := by
  simp only [idle, kindOf, beq_iff_eq] at h
  revert h
  repeat' split
  all_goals intro h; first | omega | (simp at h)

/-- How many lines end in the first k bytes. -/
def nls (l : List UInt8) (k : Nat) : Nat := ((l.take k).filter (· == 10)).length
theorem nls_succ (l : List UInt8) (k : Nat) (h : k < l.length) : nls l (k + 1) = nls l k + if l[k] == 10 then 1 else 0 := by
  unfold nls
  rw [List.take_succ_eq_append_getElem h, List.filter_append]
  by_cases hc : (l[k] == 10) = true <;> simp [List.filter_cons, hc]
theorem nls_le (l : List UInt8) (k : Nat) : nls l k ≤ k := by
  unfold nls
  have := List.length_filter_le (· == 10) (l.take k)
  have := List.length_take_le k l
  omega
theorem nls_all (l : List UInt8) : nls l l.length = (l.filter (· == 10)).length := by simp [nls]

set_option maxHeartbeats 2000000 in
set_option maxRecDepth 100000 in
theorem skip_any (b : Nat) (l : List UInt8) (ln : Nat) (w : World) (hl : l.length + ln ≤ 1000000) (hb : Scan w b l ln) :
    Calls Tryz.prog 82 #[.pointer (some ⟨b, 0, none⟩)] w fun e w' =>
      e = .returned (.tuple #[]) ∧ Scan w' b (skipL l ln).1 ((skipL l ln).2 : Nat) ∧ Touch (fun k => k = b) w w' := by
  go_enter Tryz.func82, Tryz.ntmps82
  go_wp2_with fail
  go_loopg [] (l.length + 1) (fun g wr => ∃ (m : List UInt8) (k : Nat), Scan wr b m (k : Nat) ∧ Touch (fun i => i = b) w wr ∧ Hid (skipL m k = skipL l ln) ∧ m.length + k ≤ 1000000 ∧ m.length < g)
  case atStart => exact ⟨l, ln, hb, Touch.refl _ _, rfl, hl, by omega⟩
  case round =>
    obtain ⟨m, k, hs, ht, hsk, hmk, hg⟩ := hrel
    clear hb
    have cE := eat_skip1 b m k wr (by omega) hs
    have hA : Hid (∀ j (h : j < (m.takeWhile idle).length), ((m.takeWhile idle)[j]).toNat < 128) := fun j h => idle_small _ (tw_mem idle m j h)
    have hlen := tw_dw idle m
    have hs1 := (hs.set0 (m.dropWhile idle)).alloc (.stringIter (bs (m.takeWhile idle)) 0)
    have ht1 := (ht.set (p := ⟨b, 0, none⟩) rfl (.string (bs (m.dropWhile idle)))).alloc (.stringIter (bs (m.takeWhile idle)) 0)
    have hit1 : Hid (((wr.setCell ⟨b, 0, none⟩ (.string (bs (m.dropWhile idle)))).iter (bs (m.takeWhile idle)) 0).heap[wr.heap.size]? = some (.stringIter (bs (m.takeWhile idle)) 0)) := by
      have := World.iter_heap (wr.setCell ⟨b, 0, none⟩ (.string (bs (m.dropWhile idle)))) (bs (m.takeWhile idle)) 0
      show _ = _; simpa using this
    have hbN : b < wr.heap.size := hs.lt
    have hwN : w.heap.size ≤ wr.heap.size := ht.size
    have hsk' : Hid (skipL (m.dropWhile idle) (k + nls (m.takeWhile idle) (m.takeWhile idle).length) = skipL l ln) := by
      rw [nls_all]; show _ = _; rw [← hsk.out, skipL_idle m k]
    have hdd : Hid ((m.dropWhile idle).dropWhile idle = m.dropWhile idle) := dw_dw idle m
    have hAD : Hid (m.length = (m.takeWhile idle).length + (m.dropWhile idle).length) := hlen.symm
    clear hs ht hsk hlen
    generalize m.takeWhile idle = A at *
    generalize m.dropWhile idle = D at *
    go_wp2_with (go_at_call 137; refine cE.mono ?_; rintro e w1 ⟨rfl, rfl⟩)
    clear cE
    have hAD := hAD.out
    obtain ⟨wo, rfl⟩ : ∃ wo : World, wo = wr := ⟨_, rfl⟩
    obtain ⟨go, rfl⟩ : ∃ go : Nat, go = gk := ⟨_, rfl⟩
    go_loopg [3] (A.length + 1) (fun g' c wx => ∃ (pos : Nat), pos ≤ A.length ∧ wx.heap[wo.heap.size]? = some (.stringIter (bs A) pos) ∧ Scan wx b D ((k + nls A pos : Nat)) ∧ Touch (fun i => i = b) w wx ∧ A.length < pos + g')
    case atStart => exact ⟨0, Nat.zero_le _, hit1, hs1, ht1, by omega⟩
    case round =>
      obtain ⟨pos, hpos, hit, hs, ht, hg'⟩ := hrel
      clear hs1 ht1 hit1
      by_cases hlt : pos < A.length
      · obtain ⟨g', rfl⟩ : ∃ g', gk = g' + 1 := ⟨gk - 1, by omega⟩
        have hasc := hA.out pos hlt
        have hsz : pos < (bs A).size := by rw [bs_size]; exact hlt
        have hns := Lib.hid (nls_succ A pos hlt)
        have hnl := nls_le A pos
        have hnx : ∀ ty, (Instr.next (.pointer (some ⟨wo.heap.size, 0, none⟩)) true ty).run Tryz.prog wr = .ok (.tuple #[.bool true, .int .i64 pos, .int .i32 (A[pos].toNat : Int)]) (wr.iterAt wo.heap.size (bs A) (pos + 1)) := fun ty => by
          rw [Lib.run_next_ascii_at wr _ _ pos ty hit hsz (by rw [bs_get]; exact hasc), bs_get] <;> rfl
        have hs' := hs.iterAt (k := wo.heap.size) (by omega) (bs A) (pos + 1)
        have ht' := ht.iterAt (k := wo.heap.size) hwN (bs A) (pos + 1)
        have hit' := Lib.iterAt_heap wr wo.heap.size (bs A) pos (pos + 1) hit
        have c1 := hs'.c1
        have f1 := hs'.fr 1
        generalize A[pos] = c at *
        generalize nls A pos = q at *
        clear hs ht hit hasc hsz
        by_cases hc : c = 10
        · have t1 : ((c.toNat : Int) == 10) = true := by subst hc; rfl
          have hns : nls A (pos + 1) = q + 1 := by rw [hns.out, hc]; rfl
          have hs2 := hs'.set1 ((k : Int) + q + 1)
          have ht2 := ht'.set (p := ⟨b, 1, none⟩) rfl (.int .i64 ((k : Int) + q + 1))
          have hit2 := iter_set hit' (p := ⟨b, 1, none⟩) (by simp; omega) (.int .i64 ((k : Int) + q + 1))
          replace hns := Lib.hid hns
          clear hs' ht' hit' hc
          go_wp2
          go_roundg g'
          case measure => omega
          case rel =>
            refine ⟨pos + 1, by omega, hit2, ?_, ht2, by omega⟩
            have e : (((k + nls A (pos + 1) : Nat)) : Int) = (k : Int) + q + 1 := by rw [hns.out]; omega
            rw [e]; exact hs2
        · have t1 : ((c.toNat : Int) == 10) = false := by
            rw [beq_eq_false_iff_ne]; intro h; apply hc; apply UInt8.toNat_inj.1; simp; omega
          have hns : nls A (pos + 1) = q := by rw [hns.out]; simp [hc]
          replace hns := Lib.hid hns
          clear hc
          go_wp2
          go_roundg g'
          case measure => omega
          case rel => exact ⟨pos + 1, by omega, hit', by rw [hns.out]; exact hs', ht', by omega⟩
      · obtain rfl : pos = A.length := by omega
        have hnx : ∀ ty, (Instr.next (.pointer (some ⟨wo.heap.size, 0, none⟩)) true ty).run Tryz.prog wr = .ok (.tuple #[.bool false]) wr := fun ty =>
          Lib.run_next_end_at wr _ _ _ ty hit (by rw [bs_size]; omega)
        have hnl := nls_le A A.length
        have c0 := hs.c0
        have hsk' := hsk'
        generalize nls A A.length = q at *
        clear hit hA
        by_cases hsemi : D.head? = some 59
        · obtain ⟨r, rfl⟩ : ∃ r, D = 59 :: r := by
            cases D with
            | nil => simp at hsemi
            | cons c r => simp at hsemi; exact ⟨r, by rw [hsemi]⟩
          have cH := Tryz.strings_HasPrefix (bs (59 :: r)) ⟨#[59]⟩ wr
          have hp : Lib.hasPrefix (bs (59 :: r)).data.toList (ByteArray.mk #[59]).data.toList = true := by
            rw [bs_data]; simp [Lib.hasPrefix, List.isPrefixOf]
          rw [hp] at cH
          have cE := eat_skip2 b (59 :: r) _ wr (by have := hAD; simp at this ⊢; omega) hs
          have hsk2 : Hid (skipL ((59 :: r).dropWhile (· != 10)) (k + q) = skipL l ln) := by
            show _ = _
            rw [← hsk'.out, skipL_rem]; simp [List.dropWhile_cons]
          have hlt2 : ((59 :: r : List UInt8).dropWhile (· != 10)).length ≤ r.length := by
            simp [List.dropWhile_cons]; exact dw_le _ r
          have hs2 := hs.set0 ((59 :: r : List UInt8).dropWhile (· != 10))
          have ht2 := ht.set (p := ⟨b, 0, none⟩) rfl (.string (bs ((59 :: r : List UInt8).dropWhile (· != 10))))
          have hAD2 : A.length + r.length + 1 = m.length := by have := hAD; simp at this; omega
          generalize (59 :: r : List UInt8).dropWhile (· != 10) = D2 at *
          generalize (59 :: r : List UInt8).takeWhile (· != 10) = A2 at *
          clear hs ht hp hsemi hdd hsk' hAD
          go_wp2_with (first | (go_at_call 140; refine cH.mono ?_; rintro e w1 ⟨rfl, rfl⟩) | (go_at_call 137; refine cE.mono ?_; rintro e w1 ⟨rfl, rfl⟩))
          go_roundg (go - 1)
          case measure => omega
          case rel => exact ⟨D2, k + q, hs2, ht2, hsk2, by omega, by omega⟩
        · have cH := Tryz.strings_HasPrefix (bs D) ⟨#[59]⟩ wr
          have hp : Lib.hasPrefix (bs D).data.toList (ByteArray.mk #[59]).data.toList = false := by
            rw [bs_data]
            cases D with
            | nil => rfl
            | cons c r =>
              simp at hsemi
              simp [Lib.hasPrefix, List.isPrefixOf]
              intro h; exact hsemi h.symm
          rw [hp] at cH
          have hfin : Hid (skipL l ln = (D, k + q)) := by
            show _ = _
            rw [← hsk'.out]; exact skipL_stop D _ hdd.out hsemi
          clear hp hsemi hdd hsk'
          go_wp2_with (go_at_call 140; refine cH.mono ?_; rintro e w1 ⟨rfl, rfl⟩)
          exact bodyPost_ret (v := .tuple #[]) (results_none (by kernel_rfl) _ _ _) rfl ⟨rfl, by rw [hfin.out]; exact hs, ht⟩
end Go.Proofs.YtimdkdengdhglaaGreatDoor
