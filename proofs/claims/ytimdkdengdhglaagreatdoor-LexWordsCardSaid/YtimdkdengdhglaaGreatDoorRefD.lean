/- The contract of the reference's word. -/
import Derived.Test.YtimdkdengdhglaaGreatDoorRefC
import Derived.Test.YtimdkdengdhglaaGreatDoorLexD
namespace Go.Proofs.YtimdkdengdhglaaGreatDoor
open Go Go.RowKit

def RWordPost (l : List UInt8) (w : World) (o : Option (Nat × List UInt8 × Int × List UInt8)) (e : Ending) (w' : World) : Prop :=
  Below w.heap.size w w' ∧ match o with
  | some (k, s, n, r) => e = .returned (.tuple #[.agg #[.int .u8 (k : Nat), .string (bs s), .int .i64 n, .int .i64 0], .int .i64 ((l.length - r.length : Nat) : Int), .bool true])
  | none => ∃ (k : Nat) (s : ByteArray) (n : Int) (m : Int), e = .returned (.tuple #[.agg #[.int .u8 (k : Nat), .string s, .int .i64 n, .int .i64 0], .int .i64 m, .bool false])

/-- Three results, the first one in a row of cells. -/
theorem results_cell_tmp2 {P : Program} {fn : Func} {p q q2 : Tmp} {ty : TypeId} (h : fn.results = #[.cell p ty, .tmp q, .tmp q2]) (tmps : Array Value) (w : World) (g : Nat) (t : TypeId) (cs : Array Value) (fr : Nat × Nat) (d : TypeDesc)
    (hp : tmps.getD p undef = .pointer (some ⟨g, 0, none⟩)) (hg : w.heap[g]? = some (.cells cs t fr))
    (hu : P.underlying ty = some d) (hd : (match d with | .struct _ | .array _ _ => true | _ => false) = true) (hi : (P.info? ty).map (·.size) = some cs.size) (v v2 : Value) (hq : tmps.getD q undef = v) (hq2 : tmps.getD q2 undef = v2) :
    (results fn tmps).run P w = .ok (.tuple #[.agg cs, v, v2]) w := by
  have hp' : tmps[p]?.getD undef = .pointer (some ⟨g, 0, none⟩) := by simpa using hp
  have hq' : tmps[q]?.getD undef = v := by simpa using hq
  have hq2' : tmps[q2]?.getD undef = v2 := by simpa using hq2
  simp [results, h, hp', hq', hq2', asAddr, run_loadVar_row w g t ty cs fr d hg hu hd hi]

theorem rword_end {l : List UInt8} {w W : World} {o : Option (Nat × List UInt8 × Int × List UInt8)} {a : Act} (k : Nat) (s : ByteArray) (n m : Int) (ok : Bool)
    (hd : a.defers = []) (h2 : a.tmps.getD 4 undef = .pointer (some ⟨w.heap.size, 0, none⟩)) (h3 : a.tmps.getD 5 undef = .int .i64 m) (h4 : a.tmps.getD 6 undef = .bool ok)
    (hg : W.heap[w.heap.size]? = some (.cells #[.int .u8 k, .string s, .int .i64 n, .int .i64 0] 86 (0, 0)))
    (hfin : RWordPost l w o (.returned (.tuple #[.agg #[.int .u8 k, .string s, .int .i64 n, .int .i64 0], .int .i64 m, .bool ok])) W) :
    bodyPost Tryz.prog Tryz.f84 (RWordPost l w o) .ret a W :=
  bodyPost_ret (results_cell_tmp2 (by kernel_rfl) _ _ _ _ _ _ _ h2 hg Tryz.underlying86 rfl word_info _ _ h3 h4) hd hfin
theorem rnew (w : World) (o : Obj) : Below w.heap.size w (w.alloc o) := (Below.refl _ w).alloc (Nat.le_refl _) o
theorem rnew_at (w : World) (o : Obj) (n : Nat) : ((w.alloc o).drewN n).heap[w.heap.size]? = some o := heap_alloc_new w o

theorem drop_len (l : List UInt8) (k : Nat) (c : UInt8) (r : List UInt8) (h : l.drop k = c :: r) : r.length + k + 1 = l.length ∧ l.drop (k + 1) = r := by
  have h1 : k < l.length := by
    rcases Nat.lt_or_ge k l.length with h1 | h1
    · exact h1
    · rw [List.drop_of_length_le h1] at h; simp at h
  rw [List.drop_eq_getElem_cons h1] at h
  obtain ⟨_, h2⟩ := List.cons.inj h
  have := congrArg List.length h2
  rw [List.length_drop] at this
  exact ⟨by omega, h2⟩
theorem drop_get (l : List UInt8) (k : Nat) (c : UInt8) (r : List UInt8) (h : l.drop k = c :: r) (hk : k < l.length) : l[k]'hk = c := by
  rw [List.drop_eq_getElem_cons hk] at h
  exact (List.cons.inj h).1

set_option maxHeartbeats 2000000 in
set_option maxRecDepth 100000 in
theorem rword_paren (l : List UInt8) (k : Nat) (c : UInt8) (r : List UInt8) (w : World) (hd : l.drop k = c :: r) (hlen : l.length ≤ 65536) (hc : c = 40 ∨ c = 41) :
    Calls Tryz.prog 84 #[.string (bs l), .int .i64 (k : Nat)] w (RWordPost l w (some (if c = 40 then 4 else 5, [], 0, r))) := by
  obtain ⟨hrl, _⟩ := drop_len l k c r hd
  have hsz := bs_size l
  have hg : ∀ h, (bs l)[k]'h = c := fun h => (bs_get l k h).trans (drop_get l k c r hd (by omega))
  have hn := fun o => rnew w o
  have he : ((l.length - r.length : Nat) : Int) = (k : Int) + 1 := by omega
  replace hn := Lib.hid hn
  replace he := Lib.hid he
  generalize bs l = S at *
  clear hd
  rcases hc with rfl | rfl
  · go_enter Tryz.func84, Tryz.ntmps84
    go_wp2
    refine rword_end 4 ⟨#[]⟩ 0 ((k : Int) + 1) true rfl rfl rfl rfl (heap_alloc_new w _) ⟨hn.out _, ?_⟩
    dsimp only; rw [he.out]; rfl
  · go_enter Tryz.func84, Tryz.ntmps84
    go_wp2
    refine rword_end 5 ⟨#[]⟩ 0 ((k : Int) + 1) true rfl rfl rfl rfl (heap_alloc_new w _) ⟨hn.out _, ?_⟩
    dsimp only; rw [he.out]; rfl

theorem isNum_digit {c : UInt8} {t : List UInt8} (h : digitB c = true) : isNum (c :: t) = true := by
  have hc := (digitB_iff c).1 h
  have h3 : ((45 : UInt8) == c) = false := by
    rw [beq_eq_false_iff_ne]; rintro rfl; exact absurd h (by decide)
  rw [isNum_of (c := c) (r := t) (by simp [Lib.trimPrefix, Lib.hasPrefix, List.isPrefixOf, h3]), kind_digit hc.1 hc.2]; rfl
theorem kind_not_digit {c : UInt8} (h : digitB c = false) : (kindOf c == 2) = false := by
  have hc : ¬ (48 ≤ c.toNat ∧ c.toNat ≤ 57) := fun e => by rw [(digitB_iff c).2 e] at h; exact absurd h (by decide)
  rw [beq_eq_false_iff_ne]
  unfold kindOf
  repeat' split
  all_goals omega
theorem isNum_other {c : UInt8} {t : List UInt8} (h : digitB c = false) (h45 : c ≠ 45) : isNum (c :: t) = false := by
  have h3 : ((45 : UInt8) == c) = false := by rw [beq_eq_false_iff_ne]; exact fun e => h45 e.symm
  rw [isNum_of (c := c) (r := t) (by simp [Lib.trimPrefix, Lib.hasPrefix, List.isPrefixOf, h3]), kind_not_digit h]
theorem isNum_minus (t : List UInt8) : isNum (45 :: t) = match t with | [] => false | d :: _ => digitB d := by
  cases t with
  | nil => rfl
  | cons d u =>
    rw [isNum_of (c := d) (r := u) (by simp [Lib.trimPrefix, Lib.hasPrefix, List.isPrefixOf])]
    show _ = digitB d
    by_cases h : digitB d = true
    · have hc := (digitB_iff d).1 h
      rw [h, kind_digit hc.1 hc.2]; rfl
    · have h' : digitB d = false := by simpa using h
      rw [h', kind_not_digit h']
theorem wordL_rest (c : UInt8) (r : List UInt8) (h40 : c ≠ 40) (h41 : c ≠ 41) (h34 : c ≠ 34) : wordL (c :: r) = restL (c :: r) := by
  rw [wordL, if_neg h40, if_neg h41, if_neg h34]

set_option maxHeartbeats 2000000 in
set_option maxRecDepth 100000 in
theorem rword_text (l : List UInt8) (k : Nat) (r : List UInt8) (w : World) (hd : l.drop k = 34 :: r) (hlen : l.length ≤ 65536) :
    Calls Tryz.prog 84 #[.string (bs l), .int .i64 (k : Nat)] w (RWordPost l w ((textL false r []).bind fun x => if x.1.length ≤ 4096 then some (3, x.1, 0, x.2) else none)) := by
  obtain ⟨hrl, hdr⟩ := drop_len l k 34 r hd
  have hsz := bs_size l
  have hg : ∀ h, (bs l)[k]'h = 34 := fun h => (bs_get l k h).trans (drop_get l k 34 r hd (by omega))
  have cT : Hid (∀ W, Calls Tryz.prog 148 #[.string (bs l), .int .i64 ((k : Int) + 1)] W (RTextPost l W (textL false r []))) := fun W => by
    have := rtext_any l (k + 1) W (by omega) hlen
    rw [hdr] at this
    exact_mod_cast this
  generalize bs l = S at *
  clear hd
  go_enter Tryz.func84, Tryz.ntmps84
  go_wp2_with (go_at_call 148; refine (cT.out _).mono ?_)
  rintro e W1 ⟨hb, hx⟩
  have hn0 : W1.heap[w.heap.size]? = some (.cells #[.int .u8 0, .string ⟨#[]⟩, .int .i64 0, .int .i64 0] 86 (0, 0)) :=
    (hb.block w.heap.size (by simp)).trans (heap_alloc_new w _)
  obtain ⟨d0, d1, d2, d3, g0, g1, g2, g3⟩ := word_cells hn0
  have hbel := (rnew w _).trans (hb.mono (by simp))
  replace hn0 := Lib.hid hn0
  replace hbel := Lib.hid hbel
  clear hb
  cases ht : textL false r [] with
  | none =>
    rw [ht] at hx
    obtain ⟨s, n, rfl⟩ := hx
    clear cT
    replace ht := Lib.hid ht
    go_wp2
    refine rword_end 3 s 0 n false rfl rfl rfl rfl (word_put hn0.out _ _ _ _) ⟨?_, by rw [ht.out]; exact ⟨_, _, _, _, rfl⟩⟩
    exact (((hbel.out.setCell (p := ⟨w.heap.size, 0, none⟩) (Nat.le_refl _) _).setCell (p := ⟨w.heap.size, 1, none⟩) (Nat.le_refl _) _).setCell (p := ⟨w.heap.size, 2, none⟩) (Nat.le_refl _) _).setCell (p := ⟨w.heap.size, 3, none⟩) (Nat.le_refl _) _
  | some x =>
    obtain ⟨t, m⟩ := x
    rw [ht] at hx
    subst hx
    clear cT
    replace ht := Lib.hid ht
    by_cases h4 : t.length ≤ 4096
    · have hdec : decide (t.length ≤ 4096) = true := by simpa using h4
      rw [hdec]
      go_wp2
      refine rword_end 3 (bs t) 0 _ true rfl rfl rfl rfl (word_put hn0.out _ _ _ _) ⟨?_, ?_⟩
      · exact (((hbel.out.setCell (p := ⟨w.heap.size, 0, none⟩) (Nat.le_refl _) _).setCell (p := ⟨w.heap.size, 1, none⟩) (Nat.le_refl _) _).setCell (p := ⟨w.heap.size, 2, none⟩) (Nat.le_refl _) _).setCell (p := ⟨w.heap.size, 3, none⟩) (Nat.le_refl _) _
      · rw [ht.out]; simp only [Option.bind_some, if_pos h4]
    · have hdec : decide (t.length ≤ 4096) = false := by simpa using h4
      rw [hdec]
      go_wp2
      refine rword_end 3 (bs t) 0 _ false rfl rfl rfl rfl (word_put hn0.out _ _ _ _) ⟨?_, ?_⟩
      · exact (((hbel.out.setCell (p := ⟨w.heap.size, 0, none⟩) (Nat.le_refl _) _).setCell (p := ⟨w.heap.size, 1, none⟩) (Nat.le_refl _) _).setCell (p := ⟨w.heap.size, 2, none⟩) (Nat.le_refl _) _).setCell (p := ⟨w.heap.size, 3, none⟩) (Nat.le_refl _) _
      · rw [ht.out]; simp only [Option.bind_some, if_neg h4]; exact ⟨_, _, _, _, rfl⟩

set_option maxHeartbeats 2000000 in
set_option maxRecDepth 100000 in
theorem rword_bad (l : List UInt8) (k : Nat) (c : UInt8) (r : List UInt8) (w : World) (hd : l.drop k = c :: r) (hlen : l.length ≤ 65536) (h40 : c ≠ 40) (h41 : c ≠ 41) (h34 : c ≠ 34) (hp : part c = false) :
    Calls Tryz.prog 84 #[.string (bs l), .int .i64 (k : Nat)] w (RWordPost l w none) := by
  obtain ⟨hrl, hdr⟩ := drop_len l k c r hd
  have hsz := bs_size l
  have hg : ∀ h, (bs l)[k]'h = c := fun h => (bs_get l k h).trans (drop_get l k c r hd (by omega))
  have t40 : ((c.toNat : Int) == 40) = false := u8_ne h40 40 rfl
  have t41 : ((c.toNat : Int) == 41) = false := u8_ne h41 41 rfl
  have t34 : ((c.toNat : Int) == 34) = false := u8_ne h34 34 rfl
  have hn := fun o => rnew w o
  replace hn := Lib.hid hn
  have cN : Hid (∀ W, Calls Tryz.prog 149 #[.int .u8 (c.toNat : Int)] W fun e w' => e = .returned (.bool (part c)) ∧ w' = W) := fun W => rname_any c W
  rw [hp] at cN
  generalize bs l = S at *
  clear hd h40 h41 h34 hp
  go_enter Tryz.func84, Tryz.ntmps84
  go_wp2_with (go_at_call 149; refine (cN.out _).mono ?_; rintro e w' ⟨rfl, rfl⟩)
  refine rword_end 0 ⟨#[]⟩ 0 _ false rfl rfl rfl rfl (heap_alloc_new w _) ⟨hn.out _, _, _, _, _, rfl⟩
end Go.Proofs.YtimdkdengdhglaaGreatDoor
