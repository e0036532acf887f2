/- What a node tells: the text. -/
import Derived.Test.YtehcbicngbibgaaGreatDoorZRm
import Derived.Test.YtehcbicngbibgaaGreatDoorZDg
namespace Go.Proofs.YtehcbicngbibgaaGreatDoor
open Go Go.RowKit
def joinL : List (List UInt8) → List UInt8
  | [] => []
  | x :: r => x ++ r.flatMap (32 :: ·)
theorem join_snoc (l : List (List UInt8)) (x : List UInt8) : joinL (l ++ [x]) = joinL l ++ (if l.length = 0 then x else 32 :: x) := by
  cases l with
  | nil => simp [joinL]
  | cons y r => simp [joinL]
theorem join_take {xs : List (List UInt8)} {k : Nat} {x : List UInt8} (h : xs[k]? = some x) : joinL (xs.take (k + 1)) = joinL (xs.take k) ++ (if k = 0 then x else 32 :: x) := by
  have hk := (List.getElem?_eq_some_iff.1 h).1
  rw [List.take_add_one, h, Option.toList_some, join_snoc, List.length_take, Nat.min_eq_left (by omega)]
theorem join_append (l r : List (List UInt8)) : (joinL l).length ≤ (joinL (l ++ r)).length := by
  cases l with
  | nil => simp [joinL]
  | cons y t => simp [joinL]
theorem join_take_le (xs : List (List UInt8)) (k : Nat) : (joinL (xs.take k)).length ≤ (joinL xs).length := by
  have := join_append (xs.take k) (xs.drop k)
  rwa [List.take_append_drop] at this
def vP (κ n : Int) (s : ByteArray) : List UInt8 := if κ = 1 then Lib.itoa n else if κ = 2 then (if n = 1 then [121, 101, 115] else [110, 111]) else quoteL s.data.toList
def fL (f : Fld) : List UInt8 := quoteL f.name.data.toList ++ 32 :: vP f.value.kind f.value.n f.value.s
mutual
def nL : Nd → List UInt8
  | .mk _ t x a K => if t.size = 0 then quoteL x.data.toList else 40 :: (quoteL t.data.toList ++ 32 :: 123 :: (joinL (a.map fL) ++ 125 :: 32 :: 91 :: (joinL (nLs K) ++ [93, 41])))
def nLs : List Nd → List (List UInt8)
  | [] => []
  | v :: r => nL v :: nLs r
end
theorem nLs_map (L : List Nd) : nLs L = L.map nL := by
  induction L with
  | nil => rfl
  | cons v r ih => rw [nLs, ih]; rfl
theorem nL_eq (v : Nd) : nL v = if v.tag.size = 0 then quoteL v.text.data.toList else 40 :: (quoteL v.tag.data.toList ++ 32 :: 123 :: (joinL (v.attrs.map fL) ++ 125 :: 32 :: 91 :: (joinL (v.kids.map nL) ++ [93, 41]))) := by
  cases v; rw [nL, nLs_map]; rfl
theorem quote_len (s : ByteArray) : (quoteL s.data.toList).length ≤ 2 * s.size + 2 := by
  have := escL_len s.data.toList
  rw [size_list]
  simp only [quoteL, List.length_cons, List.length_append, List.length_nil]; omega
theorem n64 {n : Int} (h : (Lit.int .i64 n).wf = true) : -9223372036854775808 ≤ n ∧ n ≤ 9223372036854775807 := by
  simpa [Lit.wf, IntKind.min, IntKind.max, IntKind.signed, IntKind.bits] using h
theorem vP_len (κ n : Int) (s : ByteArray) (h : (Lit.int .i64 n).wf = true) : (vP κ n s).length ≤ 2 * s.size + 24 := by
  unfold vP
  split
  · have hn := n64 h
    have := Lib.itoa_length_le n (by omega) (by omega)
    omega
  · split
    · split <;> simp <;> omega
    · have := quote_len s; omega
theorem quote_any (s : ByteArray) (w : World) (hs : s.size ≤ 35184372088832) :
    Calls Tryz.prog 91 #[.string s] w fun e w' => e = .returned (.string (bs (quoteL s.data.toList))) ∧ Below w.heap.size w w' := by
  have := refQuoted_any s.data.toList w (by rw [← size_list]; exact hs)
  rwa [bs_toList] at this
end Go.Proofs.YtehcbicngbibgaaGreatDoor

/- The reference's told of a plain value, its Record. -/
namespace Go.Proofs.YtehcbicngbibgaaGreatDoor
open Go Go.RowKit
set_option maxHeartbeats 2000000 in
set_option maxRecDepth 100000 in
theorem refTold_any (κ n : Int) (s : ByteArray) (la fa : Option Addr) (ln lc fn fc : Nat) (el : Int) (key : ByteArray) (hk : Bool) (w : World) (hκ : κ = 1 ∨ κ = 2 ∨ κ = 3) (hn : (Lit.int .i64 n).wf = true) (hs : s.size ≤ 35184372088832) :
    Calls Tryz.prog 139 #[.agg #[.int .u8 κ, .int .i64 n, .string s, .slice la ln lc, .slice fa fn fc, .int .u8 el, .string key, .bool hk]] w fun e w' => e = .returned (.string (bs (vP κ n s))) ∧ Below w.heap.size w w' := by
  have hn1 := n64 hn
  obtain ⟨S, hS⟩ : ∃ S, S = w.alloc (.cells #[.int .u8 κ, .int .i64 n, .string s, .slice la ln lc, .slice fa fn fc, .int .u8 el, .string key, .bool hk] 59) := ⟨_, rfl⟩
  have hbS : Below w.heap.size w S := by rw [hS]; exact (Below.refl _ _).alloc (Nat.le_refl _) _
  have hrS : S.heap[w.heap.size]? = some (.cells #[.int .u8 κ, .int .i64 n, .string s, .slice la ln lc, .slice fa fn fc, .int .u8 el, .string key, .bool hk] 59 (0, 0)) := by rw [hS]; exact heap_alloc_new w _
  have hzS : S.heap.size = w.heap.size + 1 := by rw [hS]; simp
  have x0 : S.cell? ⟨w.heap.size, 0, none⟩ = some (.int .u8 κ) := by simp [World.cell?, hrS]
  have x1 : S.cell? ⟨w.heap.size, 1, none⟩ = some (.int .i64 n) := by simp [World.cell?, hrS]
  have x2 : S.cell? ⟨w.heap.size, 2, none⟩ = some (.string s) := by simp [World.cell?, hrS]
  have x3 : S.cell? ⟨w.heap.size, 3, none⟩ = some (.slice la ln lc) := by simp [World.cell?, hrS]
  have x4 : S.cell? ⟨w.heap.size, 4, none⟩ = some (.slice fa fn fc) := by simp [World.cell?, hrS]
  have x5 : S.cell? ⟨w.heap.size, 5, none⟩ = some (.int .u8 el) := by simp [World.cell?, hrS]
  have x6 : S.cell? ⟨w.heap.size, 6, none⟩ = some (.string key) := by simp [World.cell?, hrS]
  have x7 : S.cell? ⟨w.heap.size, 7, none⟩ = some (.bool hk) := by simp [World.cell?, hrS]
  have hWS : Hid (S = _) := hS
  replace hrS := Lib.hid hrS
  clear hS
  have cD := Lib.hid (refDigits_any n S hn1.1 hn1.2)
  have cQ := Lib.hid (quote_any s S hs)
  replace hbS := Lib.hid hbS
  clear hn1 hn
  rcases hκ with rfl | rfl | rfl
  · go_enter Tryz.func139, Tryz.ntmps139
    go_wp2_with (first | (rw [← hWS.out]) | (go_at_call 161; refine cD.out.mono ?_))
    first | rintro e w3 rfl hb3 | rintro e w3 ⟨rfl, hb3⟩
    have hb3' := Lib.hid (hbS.out.trans (hb3.mono (by omega)))
    clear hb3
    go_wp2_with fail
    go_ret
    exact ⟨rfl, hb3'.out⟩
  · by_cases h1 : n = 1
    · subst h1
      go_enter Tryz.func139, Tryz.ntmps139
      go_wp2_with (first | (rw [← hWS.out]))
      go_ret
      exact ⟨rfl, hbS.out⟩
    · have e1 : vP 2 n s = [110, 111] := by unfold vP; rw [if_neg (by decide), if_pos rfl, if_neg h1]
      rw [e1]
      go_enter Tryz.func139, Tryz.ntmps139
      go_wp2_with (first | (rw [← hWS.out]))
      go_ret
      exact ⟨rfl, hbS.out⟩
  · go_enter Tryz.func139, Tryz.ntmps139
    go_wp2_with (first | (rw [← hWS.out]) | (go_at_call 91; refine cQ.out.mono ?_))
    first | rintro e w3 rfl hb3 | rintro e w3 ⟨rfl, hb3⟩
    have hb3' := Lib.hid (hbS.out.trans (hb3.mono (by omega)))
    clear hb3
    go_wp2_with fail
    go_ret
    exact ⟨rfl, hb3'.out⟩
theorem joined_mem {L : List Fld} {k : Nat} {f : Fld} (h : L[k]? = some f) : joinL ((L.map fL).take (k + 1)) = joinL ((L.map fL).take k) ++ (if k = 0 then fL f else 32 :: fL f) := join_take (by rw [List.getElem?_map, h]; rfl)
/-- Every attribute is one that is shown. -/
def Shown (L : List Fld) : Prop := ∀ f ∈ L, f.value.kind = 1 ∨ f.value.kind = 2 ∨ f.value.kind = 3
theorem shown_of {p : Option ByteArray} {L : List Fld} (h : attrsB p L = true) : Shown L := by
  induction L generalizing p with
  | nil => intro f hf; cases hf
  | cons g r ih =>
    simp only [attrsB, Bool.and_eq_true] at h
    intro f hf
    rcases List.mem_cons.1 hf with rfl | hf
    · have := h.2.2.1
      unfold attrV attrP at this
      rw [Bool.and_eq_true, decide_eq_true_eq] at this
      exact this.1
    · exact ih h.2.2.2 f hf
set_option maxHeartbeats 2000000 in
set_option maxRecDepth 100000 in
theorem refRecord_any (L : List Fld) (a : Option Addr) (n c : Nat) (w : World) (h : FLs w w.heap.size L a n) (hsh : Shown L) (hlen : (joinL (L.map fL)).length ≤ 1073741824) (hsz : ∀ f ∈ L, f.name.size ≤ 1048576 ∧ f.value.s.size ≤ 1048576) :
    Calls Tryz.prog 92 #[.slice a n c] w fun e w' => e = .returned (.string (bs (123 :: (joinL (L.map fL) ++ [125])))) ∧ Below w.heap.size w w' := by
  have hl := h.1
  rw [List.length_map] at hl
  have hn := h.2.1
  replace hl := Lib.hid hl
  replace h := Lib.hid h
  replace hsh := Lib.hid hsh
  replace hsz := Lib.hid hsz
  go_enter Tryz.func92, Tryz.ntmps92
  go_wp2_with fail
  go_loopw [3, 4] (fun t i wr => ∃ k : Nat, k ≤ n ∧ i = .int .i64 (k : Nat) ∧ t = .string (bs (123 :: joinL ((L.map fL).take k))) ∧ Below w.heap.size w wr) (fun _ i _ => n - (intOf i).toNat)
  case atStart => exact ⟨0, Nat.zero_le _, rfl, rfl, Below.refl _ _⟩
  case round =>
    obtain ⟨k, hk, rfl, rfl, hb⟩ := hrel
    have hjl := join_take_le (L.map fL) k
    have hts : (bs (123 :: joinL ((L.map fL).take k))).size ≤ 1073741825 := by rw [bs_size]; simp; omega
    by_cases hlt : k < n
    · have hlt9 : Hid (k + 1 ≤ n) := hlt
      obtain ⟨b1, o1, f, q, rfl, hb1, hg1, hc1, hf1⟩ := FLs.elem (h.out.kept hb) k hlt
      have hbw : b1 < wr.heap.size := Nat.lt_of_lt_of_le hb1 hb.size
      have hstep := Lib.hid (joined_mem hg1)
      have hmem := List.mem_of_getElem? hg1
      have x0 : ∀ d : LowW wr, d.w.cell? ⟨b1, o1 + k * 9, none⟩ = some (.string f.name) := fun d => (d.cell hbw).trans (hc1 0 (by omega))
      have x1 : ∀ d : LowW wr, d.w.cell? ⟨b1, o1 + k * 9 + 1, none⟩ = some (.int .u8 f.value.kind) := fun d => (d.cell hbw).trans (by rw [Nat.add_assoc]; exact hc1 1 (by omega))
      have x2 : ∀ d : LowW wr, d.w.cell? ⟨b1, o1 + k * 9 + 2, none⟩ = some (.int .i64 f.value.n) := fun d => (d.cell hbw).trans (by rw [Nat.add_assoc]; exact hc1 2 (by omega))
      have x3 : ∀ d : LowW wr, d.w.cell? ⟨b1, o1 + k * 9 + 3, none⟩ = some (.string f.value.s) := fun d => (d.cell hbw).trans (by rw [Nat.add_assoc]; exact hc1 3 (by omega))
      have x4 : ∀ d : LowW wr, d.w.cell? ⟨b1, o1 + k * 9 + 4, none⟩ = some (.slice q.la q.ln q.lc) := fun d => (d.cell hbw).trans (by rw [Nat.add_assoc]; exact hc1 4 (by omega))
      have x5 : ∀ d : LowW wr, d.w.cell? ⟨b1, o1 + k * 9 + 5, none⟩ = some (.slice q.fa q.fn q.fc) := fun d => (d.cell hbw).trans (by rw [Nat.add_assoc]; exact hc1 5 (by omega))
      have x6 : ∀ d : LowW wr, d.w.cell? ⟨b1, o1 + k * 9 + 6, none⟩ = some (.int .u8 f.value.elem) := fun d => (d.cell hbw).trans (by rw [Nat.add_assoc]; exact hc1 6 (by omega))
      have x7 : ∀ d : LowW wr, d.w.cell? ⟨b1, o1 + k * 9 + 7, none⟩ = some (.string f.value.key) := fun d => (d.cell hbw).trans (by rw [Nat.add_assoc]; exact hc1 7 (by omega))
      have x8 : ∀ d : LowW wr, d.w.cell? ⟨b1, o1 + k * 9 + 8, none⟩ = some (.bool f.value.hk) := fun d => (d.cell hbw).trans (by rw [Nat.add_assoc]; exact hc1 8 (by omega))
      obtain ⟨hz1, hz2⟩ := hsz.out f hmem
      have hkd := hsh.out f hmem
      have hql := quote_len f.name
      have hvl := vP_len f.value.kind f.value.n f.value.s hf1.val.k2
      have hq9 : (bs (quoteL f.name.data.toList)).size ≤ 2097154 := by rw [bs_size]; omega
      have hv9 : (bs (vP f.value.kind f.value.n f.value.s)).size ≤ 2097176 := by rw [bs_size]; omega
      obtain ⟨Q9, hQ9⟩ : ∃ Q9, Q9 = bs (quoteL f.name.data.toList) := ⟨_, rfl⟩
      obtain ⟨V9, hV9⟩ : ∃ V9, V9 = bs (vP f.value.kind f.value.n f.value.s) := ⟨_, rfl⟩
      have cQ : ∀ d : LowW wr, Calls Tryz.prog 91 #[.string f.name] d.w fun e w' => e = .returned (.string Q9) ∧ ∃ d' : LowW wr, w' = d'.w := fun d => by
        refine (quote_any f.name d.w (by omega)).mono ?_
        rintro e w' ⟨rfl, h⟩
        exact ⟨by rw [hQ9], d.more h⟩
      have cT : ∀ d : LowW wr, Calls Tryz.prog 139 #[.agg #[.int .u8 f.value.kind, .int .i64 f.value.n, .string f.value.s, .slice q.la q.ln q.lc, .slice q.fa q.fn q.fc, .int .u8 f.value.elem, .string f.value.key, .bool f.value.hk]] d.w fun e w' => e = .returned (.string V9) ∧ ∃ d' : LowW wr, w' = d'.w := fun d => by
        refine (refTold_any f.value.kind f.value.n f.value.s q.la q.fa q.ln q.lc q.fn q.fc f.value.elem f.value.key f.value.hk d.w hkd hf1.val.k2 (by omega)).mono ?_
        rintro e w' ⟨rfl, h⟩
        exact ⟨by rw [hV9], d.more h⟩
      rw [← hQ9] at hq9
      rw [← hV9] at hv9
      obtain ⟨T9, hT9⟩ : ∃ T9, T9 = bs (123 :: joinL ((L.map fL).take k)) := ⟨_, rfl⟩
      rw [← hT9] at hts ⊢
      have e0 : Hid (k = 0 → bs (123 :: joinL ((L.map fL).take (k + 1))) = T9 ++ Q9 ++ bs [32] ++ V9) := fun h0 => by
        rw [hT9, hQ9, hV9, bs_append, bs_append, bs_append, hstep.out, if_pos h0]; simp [fL]
      have e1 : Hid (k ≠ 0 → bs (123 :: joinL ((L.map fL).take (k + 1))) = T9 ++ bs [32] ++ Q9 ++ bs [32] ++ V9) := fun h0 => by
        rw [hT9, hQ9, hV9, bs_append, bs_append, bs_append, bs_append, hstep.out, if_neg h0]; simp [fL]
      replace hQ9 := Lib.hid hQ9
      replace hV9 := Lib.hid hV9
      replace hT9 := Lib.hid hT9
      replace cQ := Lib.hid cQ
      replace cT := Lib.hid cT
      replace hb := Lib.hid hb
      clear hc1 hf1 hg1 hkd hql hvl hmem
      rcases Nat.eq_zero_or_pos k with rfl | h0
      · simp only [Nat.zero_mul, Nat.add_zero] at x0 x1 x2 x3 x4 x5 x6 x7 x8
        have e9 := Lib.hid (e0.out rfl)
        clear e0 e1
        go_wp2_with fail
        refine wp_region_low (by kernel_rfl) (by kernel_rfl) ?_
        repeat (go_big_quiet_step (first | (go_at_call 91; exact cQ.out _) | (go_at_call 139; exact cT.out _)))
        refine wpQuiet_nil ?_
        rintro _ ⟨d, rfl⟩
        have hb' := Lib.hid (hb.out.trans (d.low.mono hb.out.size))
        go_wp2_with fail
        go_roundw
        case rel => exact ⟨0 + 1, hlt9.out, by go_num, by rw [e9.out]; rfl, hb'.out⟩
        case measure => simp [intOf]; have := hlt9.out; omega
      · go_wp2_with fail
        refine wp_region_low (by kernel_rfl) (by kernel_rfl) ?_
        repeat (go_big_quiet_step (first | (go_at_call 91; exact cQ.out _) | (go_at_call 139; exact cT.out _)))
        refine wpQuiet_nil ?_
        rintro _ ⟨d, rfl⟩
        have hb' := Lib.hid (hb.out.trans (d.low.mono hb.out.size))
        go_wp2_with fail
        go_roundw
        case rel => exact ⟨k + 1, hlt9.out, by go_num, by rw [e1.out (by omega)]; rfl, hb'.out⟩
        case measure => simp [intOf]; have := hlt9.out; omega
    · obtain rfl : k = n := by omega
      have e2 : Hid (bs (123 :: joinL ((L.map fL).take k)) ++ bs [125] = bs (123 :: (joinL (L.map fL) ++ [125]))) := by
        show _ = _
        rw [bs_append, List.take_of_length_le (by rw [List.length_map, hl.out]; exact Nat.le_refl _)]; simp
      obtain ⟨T9, hT9⟩ : ∃ T9, T9 = bs (123 :: joinL ((L.map fL).take k)) := ⟨_, rfl⟩
      rw [← hT9] at hts e2 ⊢
      replace hT9 := Lib.hid hT9
      replace hb := Lib.hid hb
      go_wp2_with fail
      go_ret
      exact ⟨by rw [← e2.out]; rfl, hb.out⟩
end Go.Proofs.YtehcbicngbibgaaGreatDoor

/- The reference's told of nodes, its Text. -/
namespace Go.Proofs.YtehcbicngbibgaaGreatDoor
open Go Go.RowKit
theorem name_le {s : ByteArray} (h : nameB s = true) : s.size ≤ 4096 := by
  unfold nameB at h
  rw [Bool.and_eq_true, decide_eq_true_eq, decide_eq_true_eq] at h
  exact h.2
theorem attr_le {v : Val} (h : attrV v = true) : v.s.size ≤ 4096 := by
  unfold attrV attrP plainP at h
  rw [Bool.and_eq_true, Bool.and_eq_true] at h
  have := h.2.2
  split at this
  · rw [decide_eq_true_eq] at this; omega
  · split at this
    · rw [Bool.and_eq_true, decide_eq_true_eq] at this; omega
    · rw [Bool.and_eq_true, decide_eq_true_eq, decide_eq_true_eq] at this; exact this.2
theorem attrs_le {p : Option ByteArray} {L : List Fld} (h : attrsB p L = true) : ∀ f ∈ L, f.name.size ≤ 1048576 ∧ f.value.s.size ≤ 1048576 := by
  induction L generalizing p with
  | nil => intro f hf; cases hf
  | cons g r ih =>
    simp only [attrsB, Bool.and_eq_true] at h
    intro f hf
    rcases List.mem_cons.1 hf with rfl | hf
    · have := name_le h.1; have := attr_le h.2.2.1; omega
    · exact ih h.2.2.2 f hf
theorem mays_mem {L : List Nd} (h : maysB L = true) : ∀ v ∈ L, mayB v = true := by
  induction L with
  | nil => intro v hv; cases hv
  | cons g r ih =>
    rw [maysB, Bool.and_eq_true] at h
    intro v hv
    rcases List.mem_cons.1 hv with rfl | hv
    · exact h.1
    · exact ih h.2 v hv
theorem may_parts {v : Nd} (h : mayB v = true) : (v.tag.size = 0 ∧ v.attrs.length = 0 ∧ v.kids.length = 0 ∧ v.text.size ≤ 4096) ∨ (0 < v.tag.size ∧ v.tag.size ≤ 4096 ∧ v.text.size = 0 ∧ attrsB none v.attrs = true ∧ maysB v.kids = true) := by
  rw [mayB_eq] at h
  split at h
  · rename_i h0
    simp only [Bool.and_eq_true, decide_eq_true_eq] at h
    exact .inl ⟨h0, h.1, h.2.1, h.2.2⟩
  · rename_i h0
    simp only [Bool.and_eq_true, decide_eq_true_eq] at h
    exact .inr ⟨by omega, name_le h.1, h.2.1, h.2.2.1, h.2.2.2⟩
theorem joined_nd {L : List Nd} {k : Nat} {v : Nd} (h : L[k]? = some v) : joinL ((L.map nL).take (k + 1)) = joinL ((L.map nL).take k) ++ (if k = 0 then nL v else 32 :: nL v) := join_take (by rw [List.getElem?_map, h]; rfl)
theorem joined_nd_le {L : List Nd} {k : Nat} {v : Nd} (h : L[k]? = some v) : (joinL ((L.map nL).take k)).length + (nL v).length ≤ (joinL (L.map nL)).length := by
  have h1 := join_take_le (L.map nL) (k + 1)
  rw [joined_nd h, List.length_append] at h1
  split at h1
  · exact h1
  · rw [List.length_cons] at h1; omega
def ToldR (L : List Nd) : Prop := maysB L = true → (joinL (L.map nL)).length ≤ 1073741824 → ∀ (a : Option Addr) (n c : Nat) (w : World), NLs w w.heap.size L a n →
  Calls Tryz.prog 24 #[.slice a n c] w fun e w' => e = .returned (.string (bs (joinL (L.map nL)))) ∧ Below w.heap.size w w'
set_option maxHeartbeats 2000000 in
set_option maxRecDepth 100000 in
theorem toldR_of (L : List Nd) (hS : ∀ v ∈ L, ToldR v.kids) : ToldR L := by
  intro hmay hlen a n c w h
  have hl := h.1
  rw [List.length_map] at hl
  have hn := h.2.1
  replace hl := Lib.hid hl
  replace h := Lib.hid h
  replace hS := Lib.hid hS
  replace hmay := Lib.hid hmay
  go_enter Tryz.func24, Tryz.ntmps24
  go_wp2_with fail
  go_loopw [3, 4] (fun t i wr => ∃ k : Nat, k ≤ n ∧ i = .int .i64 (k : Nat) ∧ t = .string (bs (joinL ((L.map nL).take k))) ∧ Below w.heap.size w wr) (fun _ i _ => n - (intOf i).toNat)
  case atStart => exact ⟨0, Nat.zero_le _, rfl, rfl, Below.refl _ _⟩
  case round =>
    obtain ⟨k, hk, rfl, rfl, hb⟩ := hrel
    have hjl := join_take_le (L.map nL) k
    have hts : (bs (joinL ((L.map nL).take k))).size ≤ 1073741824 := by rw [bs_size]; omega
    by_cases hlt : k < n
    · have hlt9 : Hid (k + 1 ≤ n) := hlt
      obtain ⟨b1, o1, v, q, rfl, hb1, hg1, hc1, hv1⟩ := NLs.elem (h.out.kept hb) k hlt
      have hbw : b1 < wr.heap.size := Nat.lt_of_lt_of_le hb1 hb.size
      have hstep := Lib.hid (joined_nd hg1)
      have hle := joined_nd_le hg1
      have hmem := List.mem_of_getElem? hg1
      have hvr := hv1.mono hb.size
      obtain ⟨T9, hT9⟩ : ∃ T9, T9 = bs (joinL ((L.map nL).take k)) := ⟨_, rfl⟩
      rw [← hT9] at hts ⊢
      rcases may_parts (mays_mem hmay.out v hmem) with ⟨ht0, hp1, hp2, hx0⟩ | ⟨ht0, ht1, hx0, hat, hkd⟩
      · have htz := size_zero (by omega : ¬ 0 < v.tag.size)
        have x0 : wr.cell? ⟨b1, o1 + k * 5, none⟩ = some (.int .i64 v.id) := hc1 0 (by omega)
        have x1 : wr.cell? ⟨b1, o1 + k * 5 + 1, none⟩ = some (.string v.tag) := by rw [Nat.add_assoc]; exact hc1 1 (by omega)
        have x2 : wr.cell? ⟨b1, o1 + k * 5 + 2, none⟩ = some (.string v.text) := by rw [Nat.add_assoc]; exact hc1 2 (by omega)
        have x3 : wr.cell? ⟨b1, o1 + k * 5 + 3, none⟩ = some (.slice q.aa q.an q.ac) := by rw [Nat.add_assoc]; exact hc1 3 (by omega)
        have x4 : wr.cell? ⟨b1, o1 + k * 5 + 4, none⟩ = some (.slice q.ka q.kn q.kc) := by rw [Nat.add_assoc]; exact hc1 4 (by omega)
        rw [htz] at x1
        have e0 := Lib.hid (nL_eq v)
        rw [if_pos ht0] at e0
        have hql := quote_len v.text
        obtain ⟨Q9, hQ9⟩ : ∃ Q9, Q9 = bs (quoteL v.text.data.toList) := ⟨_, rfl⟩
        have hq9 : Q9.size ≤ 10000 := by rw [hQ9, bs_size]; omega
        have f0 : k = 0 → T9 ++ Q9 = bs (joinL ((L.map nL).take (k + 1))) := fun h0 => by rw [hstep.out, if_pos h0, e0.out, hT9, hQ9, bs_append]
        have f1 : k ≠ 0 → T9 ++ bs [32] ++ Q9 = bs (joinL ((L.map nL).take (k + 1))) := fun h0 => by rw [hstep.out, if_neg h0, e0.out, hT9, hQ9, bs_append, bs_append]; simp
        have cQ : Hid (∀ W, Calls Tryz.prog 91 #[.string v.text] W fun e w' => e = .returned (.string Q9) ∧ Below W.heap.size W w') := fun W => by rw [hQ9]; exact quote_any v.text W (by omega)
        replace hQ9 := Lib.hid hQ9
        replace hT9 := Lib.hid hT9
        replace htz := Lib.hid htz
        replace hp1 := Lib.hid hp1
        replace hp2 := Lib.hid hp2
        replace ht0 := Lib.hid ht0
        replace hb := Lib.hid hb
        clear hc1 hv1 hvr hg1 hmem hle hql e0 hstep
        rcases Nat.eq_zero_or_pos k with rfl | h0
        · simp only [Nat.zero_mul, Nat.add_zero] at x0 x1 x2 x3 x4
          replace f0 := Lib.hid (f0 rfl)
          clear f1
          go_wp2_with (go_at_call 91; refine (cQ.out _).mono ?_)
          first | rintro e w3 rfl hb3 | rintro e w3 ⟨rfl, hb3⟩
          have hb' := Lib.hid (hb.out.trans (hb3.mono hb.out.size))
          clear hb3
          go_wp2_with fail
          go_roundw
          case rel => exact ⟨0 + 1, hlt9.out, by go_num, by rw [← f0.out], hb'.out⟩
          case measure => simp [intOf]; have := hlt9.out; omega
        · replace f1 := Lib.hid (f1 (by omega))
          clear f0
          go_wp2_with (go_at_call 91; refine (cQ.out _).mono ?_)
          first | rintro e w3 rfl hb3 | rintro e w3 ⟨rfl, hb3⟩
          have hb' := Lib.hid (hb.out.trans (hb3.mono hb.out.size))
          clear hb3
          go_wp2_with fail
          go_roundw
          case rel => exact ⟨k + 1, hlt9.out, by go_num, by rw [← f1.out]; rfl, hb'.out⟩
          case measure => simp [intOf]; have := hlt9.out; omega
      · have he := ne_empty ht0
        have he' := not_isEmpty ht0
        have y1 : wr.cell? ⟨b1, o1 + k * 5 + 1, none⟩ = some (.string v.tag) := by rw [Nat.add_assoc]; exact hc1 1 (by omega)
        have x0 : ∀ d : LowW wr, d.w.cell? ⟨b1, o1 + k * 5, none⟩ = some (.int .i64 v.id) := fun d => (d.cell hbw).trans (hc1 0 (by omega))
        have x1 : ∀ d : LowW wr, d.w.cell? ⟨b1, o1 + k * 5 + 1, none⟩ = some (.string v.tag) := fun d => (d.cell hbw).trans (by rw [Nat.add_assoc]; exact hc1 1 (by omega))
        have x2 : ∀ d : LowW wr, d.w.cell? ⟨b1, o1 + k * 5 + 2, none⟩ = some (.string v.text) := fun d => (d.cell hbw).trans (by rw [Nat.add_assoc]; exact hc1 2 (by omega))
        have x3 : ∀ d : LowW wr, d.w.cell? ⟨b1, o1 + k * 5 + 3, none⟩ = some (.slice q.aa q.an q.ac) := fun d => (d.cell hbw).trans (by rw [Nat.add_assoc]; exact hc1 3 (by omega))
        have x4 : ∀ d : LowW wr, d.w.cell? ⟨b1, o1 + k * 5 + 4, none⟩ = some (.slice q.ka q.kn q.kc) := fun d => (d.cell hbw).trans (by rw [Nat.add_assoc]; exact hc1 4 (by omega))
        have e0 := Lib.hid (nL_eq v)
        rw [if_neg (by omega)] at e0
        have hln : (nL v).length = (quoteL v.tag.data.toList).length + (joinL (v.attrs.map fL)).length + (joinL (v.kids.map nL)).length + 8 := by rw [e0.out]; simp; omega
        have hql := quote_len v.tag
        have hra : (joinL (v.attrs.map fL)).length ≤ 1073741824 := by omega
        have hka : (joinL (v.kids.map nL)).length ≤ 1073741824 := by omega
        have cK := hS.out v hmem hkd hka
        obtain ⟨Q9, hQ9⟩ : ∃ Q9, Q9 = bs (quoteL v.tag.data.toList) := ⟨_, rfl⟩
        obtain ⟨R9, hR9⟩ : ∃ R9, R9 = bs (123 :: (joinL (v.attrs.map fL) ++ [125])) := ⟨_, rfl⟩
        obtain ⟨K9, hK9⟩ : ∃ K9, K9 = bs (joinL (v.kids.map nL)) := ⟨_, rfl⟩
        have hq9 : Q9.size ≤ 10000 := by rw [hQ9, bs_size]; omega
        have hr9 : R9.size ≤ 1073741826 := by rw [hR9, bs_size]; simp; omega
        have hk9 : K9.size ≤ 1073741824 := by rw [hK9, bs_size]; omega
        have f0 : k = 0 → T9 ++ bs [40] ++ Q9 ++ bs [32] ++ R9 ++ bs [32, 91] ++ K9 ++ bs [93, 41] = bs (joinL ((L.map nL).take (k + 1))) := fun h0 => by
          rw [hstep.out, if_pos h0, e0.out, hT9, hQ9, hR9, hK9]; simp only [bs_append]; simp
        have f1 : k ≠ 0 → T9 ++ bs [32] ++ bs [40] ++ Q9 ++ bs [32] ++ R9 ++ bs [32, 91] ++ K9 ++ bs [93, 41] = bs (joinL ((L.map nL).take (k + 1))) := fun h0 => by
          rw [hstep.out, if_neg h0, e0.out, hT9, hQ9, hR9, hK9]; simp only [bs_append]; simp
        have cQ : ∀ d : LowW wr, Calls Tryz.prog 91 #[.string v.tag] d.w fun e w' => e = .returned (.string Q9) ∧ ∃ d' : LowW wr, w' = d'.w := fun d => by
          refine (quote_any v.tag d.w (by omega)).mono ?_
          rintro e w' ⟨rfl, h⟩
          exact ⟨by rw [hQ9], d.more h⟩
        have cR : ∀ d : LowW wr, Calls Tryz.prog 92 #[.slice q.aa q.an q.ac] d.w fun e w' => e = .returned (.string R9) ∧ ∃ d' : LowW wr, w' = d'.w := fun d => by
          refine (refRecord_any v.attrs q.aa q.an q.ac d.w (hvr.A.later d.low) (shown_of hat) hra (attrs_le hat)).mono ?_
          rintro e w' ⟨rfl, h⟩
          exact ⟨by rw [hR9], d.more h⟩
        have cT : ∀ d : LowW wr, Calls Tryz.prog 24 #[.slice q.ka q.kn q.kc] d.w fun e w' => e = .returned (.string K9) ∧ ∃ d' : LowW wr, w' = d'.w := fun d => by
          refine (cK q.ka q.kn q.kc d.w (hvr.K.later d.low)).mono ?_
          rintro e w' ⟨rfl, h⟩
          exact ⟨by rw [hK9], d.more h⟩
        replace hQ9 := Lib.hid hQ9
        replace hR9 := Lib.hid hR9
        replace hK9 := Lib.hid hK9
        replace hT9 := Lib.hid hT9
        replace hx0 := Lib.hid hx0
        replace hat := Lib.hid hat
        replace hkd := Lib.hid hkd
        replace hb := Lib.hid hb
        replace cQ := Lib.hid cQ
        replace cR := Lib.hid cR
        replace cT := Lib.hid cT
        clear hc1 hv1 hvr hg1 hmem hle hql e0 hstep hln hra hka cK
        rcases Nat.eq_zero_or_pos k with rfl | h0
        · skip
          simp only [Nat.zero_mul, Nat.add_zero] at x0 x1 x2 x3 x4 y1
          replace f0 := Lib.hid (f0 rfl)
          clear f1
          go_wp2_with fail
          refine wp_region_low (by kernel_rfl) (by kernel_rfl) ?_
          repeat (go_big_quiet_step (first | (go_at_call 91; exact cQ.out _) | (go_at_call 92; exact cR.out _) | (go_at_call 24; exact cT.out _)))
          refine wpQuiet_nil ?_
          rintro _ ⟨d, rfl⟩
          have hb' := Lib.hid (hb.out.trans (d.low.mono hb.out.size))
          go_wp2_with fail
          go_roundw
          case rel => exact ⟨0 + 1, hlt9.out, by go_num, by rw [← f0.out]; rfl, hb'.out⟩
          case measure => simp [intOf]; have := hlt9.out; omega
        · skip
          replace f1 := Lib.hid (f1 (by omega))
          clear f0
          go_wp2_with fail
          refine wp_region_low (by kernel_rfl) (by kernel_rfl) ?_
          repeat (go_big_quiet_step (first | (go_at_call 91; exact cQ.out _) | (go_at_call 92; exact cR.out _) | (go_at_call 24; exact cT.out _)))
          refine wpQuiet_nil ?_
          rintro _ ⟨d, rfl⟩
          have hb' := Lib.hid (hb.out.trans (d.low.mono hb.out.size))
          go_wp2_with fail
          go_roundw
          case rel => exact ⟨k + 1, hlt9.out, by go_num, by rw [← f1.out]; rfl, hb'.out⟩
          case measure => simp [intOf]; have := hlt9.out; omega
    · obtain rfl : k = n := by omega
      have e2 : Hid (joinL ((L.map nL).take k) = joinL (L.map nL)) := by
        show _ = _
        rw [List.take_of_length_le (by rw [List.length_map, hl.out]; exact Nat.le_refl _)]
      obtain ⟨T9, hT9⟩ : ∃ T9, T9 = bs (joinL ((L.map nL).take k)) := ⟨_, rfl⟩
      rw [← hT9] at hts ⊢
      replace hT9 := Lib.hid hT9
      replace hb := Lib.hid hb
      go_wp2_with fail
      go_ret
      exact ⟨by rw [← e2.out, ← hT9.out]; rfl, hb.out⟩
theorem refToldN_any (L : List Nd) : ToldR L := by
  have key : ∀ v : Nd, ToldR v.kids := fun v => Nd.ind (P := fun v => ToldR v.kids) (fun i t x a K hK => toldR_of K hK) v
  exact toldR_of L fun v _ => key v
def textB (L : List Nd) : ByteArray := if maysB L = true then bs (joinL (L.map nL)) else ⟨#[]⟩
set_option maxHeartbeats 2000000 in
set_option maxRecDepth 100000 in
theorem refText_any (L : List Nd) (a : Option Addr) (n c : Nat) (w : World) (hlen : maysB L = true → (joinL (L.map nL)).length ≤ 1073741824) (h : NLs w w.heap.size L a n) :
    Calls Tryz.prog 10 #[.slice a n c] w fun e w' => e = .returned (.string (textB L)) ∧ Below w.heap.size w w' := by
  have cM := refMay_any L a n c w h
  have cT : maysB L = true → ∀ W, Below w.heap.size w W → Calls Tryz.prog 24 #[.slice a n c] W fun e w' => e = .returned (.string (bs (joinL (L.map nL)))) ∧ Below W.heap.size W w' := fun h1 W hW => refToldN_any L h1 (hlen h1) a n c W (h.later hW)
  unfold textB
  replace h := Lib.hid h
  by_cases hm : maysB L = true
  · rw [if_pos hm]
    rw [hm] at cM
    replace cT := Lib.hid (cT hm)
    replace hm := Lib.hid hm
    replace cM := Lib.hid cM
    replace hlen := Lib.hid hlen
    go_enter Tryz.func10, Tryz.ntmps10
    go_wp2_with (go_at_call 23; refine cM.out.mono ?_)
    first | rintro e w3 rfl hb3 | rintro e w3 ⟨rfl, hb3⟩
    have cT3 := Lib.hid (cT.out w3 hb3)
    replace hb3 := Lib.hid hb3
    go_wp2_with (go_at_call 24; refine cT3.out.mono ?_)
    first | rintro e w4 rfl hb4 | rintro e w4 ⟨rfl, hb4⟩
    have hb' := Lib.hid (hb3.out.trans (hb4.mono hb3.out.size))
    clear hb4
    go_wp2_with fail
    go_ret
    exact ⟨rfl, hb'.out⟩
  · rw [if_neg hm]
    rw [Bool.not_eq_true] at hm
    rw [hm] at cM
    clear cT
    replace hm := Lib.hid hm
    replace cM := Lib.hid cM
    replace hlen := Lib.hid hlen
    go_enter Tryz.func10, Tryz.ntmps10
    go_wp2_with (go_at_call 23; refine cM.out.mono ?_)
    first | rintro e w3 rfl hb3 | rintro e w3 ⟨rfl, hb3⟩
    have hb' := Lib.hid hb3
    clear hb3
    go_wp2_with fail
    go_ret
    exact ⟨rfl, hb'.out⟩
end Go.Proofs.YtehcbicngbibgaaGreatDoor
