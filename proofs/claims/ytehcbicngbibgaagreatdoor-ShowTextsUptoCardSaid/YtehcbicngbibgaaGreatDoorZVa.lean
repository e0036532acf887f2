/- Is a kind one of a few. -/
import Derived.Test.YtehcbicngbibgaaGreatDoorZRo
namespace Go.Proofs.YtehcbicngbibgaaGreatDoor
open Go Go.RowKit
structure IdxPost (κ : Int) (ks : List Int) (w : World) (e : Ending) (w' : World) : Prop where
  r : ∃ r : Int, e = .returned (.int .i64 r) ∧ (κ ∈ ks → 0 ≤ r) ∧ (κ ∉ ks → r = -1)
  w : w' = w
def Kinds (w : World) (g : Nat) (ks : List Int) : Prop := ks.length ≤ 2 ∧ ∀ i (h : i < ks.length), w.cell? ⟨g, i, none⟩ = some (.int .u8 ks[i])
set_option maxHeartbeats 2000000 in
set_option maxRecDepth 100000 in
theorem index_any (κ : Int) (g c : Nat) (ks : List Int) (w : World) (h : Kinds w g ks) :
    Calls Tryz.prog 173 #[.slice (some ⟨g, 0, none⟩) ks.length c, .int .u8 κ] w fun e w' => IdxPost κ ks w e w' := by
  obtain ⟨hn, hc⟩ := h
  obtain ⟨n, hl⟩ : ∃ n, n = ks.length := ⟨_, rfl⟩
  rw [← hl] at hn ⊢
  replace hl := Lib.hid hl
  replace hc := Lib.hid hc
  go_enter Tryz.func173, Tryz.ntmps173
  go_wp2
  go_loop [8] (fun i => ∃ k : Nat, k ≤ n ∧ i = .int .i64 (k : Nat) ∧ κ ∉ ks.take k) (fun i => n - (intOf i).toNat)
  case atStart => exact ⟨0, Nat.zero_le _, rfl, by simp⟩
  case round =>
    obtain ⟨k, hk, rfl, hno⟩ := hrel
    by_cases hlt : k < n
    · have hkl : k < ks.length := by rw [← hl.out]; exact hlt
      have c0 := hc.out k hkl
      have hmem : ks[k] ∈ ks := List.getElem_mem _
      have htk : ks.take (k + 1) = ks.take k ++ [ks[k]] := List.take_succ_eq_append_getElem hkl
      generalize ks[k] = y at *
      by_cases hy : κ = y
      · subst hy
        replace htk := Lib.hid htk
        go_wp2
        go_ret
        exact ⟨⟨_, rfl, fun _ => by omega, fun h => absurd hmem h⟩, rfl⟩
      · have hno2 : κ ∉ ks.take (k + 1) := by rw [htk]; simp [hno, hy]
        replace htk := Lib.hid htk
        go_wp2
        go_round
        case rel => exact ⟨k + 1, by omega, by go_num, hno2⟩
        case measure => simp [intOf]; omega
    · have : ks.take k = ks := List.take_of_length_le (by rw [← hl.out]; omega)
      rw [this] at hno
      clear this
      go_wp2
      go_ret
      exact ⟨⟨_, rfl, fun h => absurd h hno, fun _ => rfl⟩, rfl⟩
set_option maxHeartbeats 2000000 in
set_option maxRecDepth 100000 in
theorem contains_any (κ : Int) (g c : Nat) (ks : List Int) (w : World) (h : Kinds w g ks) :
    Calls Tryz.prog 153 #[.slice (some ⟨g, 0, none⟩) ks.length c, .int .u8 κ] w fun e w' => e = .returned (.bool (decide (κ ∈ ks))) ∧ w' = w := by
  have cI := Lib.hid (index_any κ g c ks w h)
  replace h := Lib.hid h
  go_enter Tryz.func153, Tryz.ntmps153
  go_wp2_with (go_at_call 173; refine cI.out.mono ?_)
  rintro e w1 ⟨⟨r, rfl, h1, h2⟩, rfl⟩
  by_cases hm : κ ∈ ks
  · have hr := h1 hm
    have hr2 : Hid (κ ∈ ks) := hm
    clear h1 h2 hm
    go_wp2
    go_ret
    exact ⟨by rw [decide_eq_true hr2.out]; first | rfl | (simp; done) | (simp; omega), rfl⟩
  · obtain rfl := h2 hm
    have hr2 : Hid (κ ∉ ks) := hm
    clear h1 h2 hm
    go_wp2
    go_ret
    exact ⟨by rw [decide_eq_false hr2.out]; rfl, rfl⟩
set_option maxHeartbeats 2000000 in
set_option maxRecDepth 100000 in
theorem alone1_any (κ : Int) (b g c : Nat) (ks : List Int) (w : World) (h : Kinds w g ks) (hb : w.cell? ⟨b, 0, none⟩ = some (.int .u8 κ)) :
    Calls Tryz.prog 152 #[.slice (some ⟨g, 0, none⟩) ks.length c, .pointer (some ⟨b, 0, none⟩)] w fun e w' => e = .returned (.bool (decide (κ ∈ ks))) ∧ w' = w := by
  have cI := Lib.hid (contains_any κ g c ks w h)
  replace h := Lib.hid h
  obtain ⟨y, hy⟩ : ∃ y, y = decide (κ ∈ ks) := ⟨_, rfl⟩
  rw [← hy] at cI ⊢
  replace hy := Lib.hid hy
  go_enter Tryz.func152, Tryz.ntmps152
  go_wp2_with (go_at_call 153; refine cI.out.mono ?_)
  first | rintro e w3 rfl rfl | rintro e w3 ⟨rfl, rfl⟩
  go_wp2_with fail
  go_ret
  exact ⟨rfl, rfl⟩
end Go.Proofs.YtehcbicngbibgaaGreatDoor

/- value.alone of the three plain kinds. -/
namespace Go.Proofs.YtehcbicngbibgaaGreatDoor
open Go Go.RowKit
theorem kinds2 (W : World) (T : Nat) (a b : Int) : Kinds (W.alloc (.cells #[.int .u8 a, .int .u8 b] T)) W.heap.size [a, b] := by
  refine ⟨by simp, fun i h => ?_⟩
  match i, h with
  | 0, _ => simp
  | 1, _ => simp
theorem kinds1 (W : World) (T : Nat) (a : Int) : Kinds (W.alloc (.cells #[.int .u8 a] T)) W.heap.size [a] := by
  refine ⟨by simp, fun i h => ?_⟩
  match i, h with
  | 0, _ => simp
/-- A value in a box. -/
def Boxed (W : World) (b : Nat) (κ n : Int) (s : ByteArray) (la fa : Option Addr) (ln lc fn fc : Nat) (el : Int) (key : ByteArray) (hk : Bool) : Prop := W.heap[b]? = some (.cells #[.int .u8 κ, .int .i64 n, .string s, .slice la ln lc, .slice fa fn fc, .int .u8 el, .string key, .bool hk] 59 (0, 0))
theorem Boxed.alloc {W : World} {b : Nat} {κ n : Int} {s : ByteArray} {la fa : Option Addr} {ln lc fn fc : Nat} {el : Int} {key : ByteArray} {hk : Bool} (h : Boxed W b κ n s la fa ln lc fn fc el key hk) (o : Obj) : Boxed (W.alloc o) b κ n s la fa ln lc fn fc el key hk := (Lib.alloc_old W o b (Array.getElem?_eq_some_iff.1 h).1).trans h
theorem Boxed.kept {W W' : World} {b : Nat} {κ n : Int} {s : ByteArray} {la fa : Option Addr} {ln lc fn fc : Nat} {el : Int} {key : ByteArray} {hk : Bool} (h : Boxed W b κ n s la fa ln lc fn fc el key hk) (hb : Below W.heap.size W W') : Boxed W' b κ n s la fa ln lc fn fc el key hk := (hb.block b (Array.getElem?_eq_some_iff.1 h).1).trans h
theorem Boxed.kind {W : World} {b : Nat} {κ n : Int} {s : ByteArray} {la fa : Option Addr} {ln lc fn fc : Nat} {el : Int} {key : ByteArray} {hk : Bool} (h : Boxed W b κ n s la fa ln lc fn fc el key hk) : W.cell? ⟨b, 0, none⟩ = some (.int .u8 κ) := by
  have h' : W.heap[b]? = _ := h
  simp [World.cell?, h']
end Go.Proofs.YtehcbicngbibgaaGreatDoor
