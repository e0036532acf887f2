/- show.put: nodes behind one another. -/
import Derived.Test.YtehcbicngbibgaaGreatDoorZTt
namespace Go.Proofs.YtehcbicngbibgaaGreatDoor
open Go Go.RowKit
theorem Turn.cell {w w' : World} {b : Nat} {v v' : Value} (h : Turn w w' b v v') {a : Addr} (h1 : a.block < w.heap.size) (h2 : a.block ≠ b) (h3 : ∀ q, v.ownBlock = some q → q ≠ a.block) : w'.cell? a = w.cell? a :=
  World.cell?_of_block (h.block a.block h1 h2 (fun e => h3 _ e.symm rfl))
theorem attr_parts {p : Option ByteArray} {L : List Fld} (h : attrsB p L = true) : ∀ f ∈ L, f.name.size ≤ 4096 ∧ f.value.s.size ≤ 4096 ∧ plainP f.value.kind f.value.n f.value.s f.value.L.length f.value.F.length f.value.elem f.value.key f.value.hk = true := by
  induction L generalizing p with
  | nil => intro f hf; cases hf
  | cons g r ih =>
    simp only [attrsB, Bool.and_eq_true] at h
    intro f hf
    rcases List.mem_cons.1 hf with rfl | hf
    · refine ⟨name_le h.1, attr_le h.2.2.1, ?_⟩
      have := h.2.2.1
      unfold attrV attrP at this
      rw [Bool.and_eq_true] at this
      exact this.2
    · exact ih h.2.2.2 f hf
theorem wstr_any (b : Nat) (v : Value) (l x : List UInt8) (s : ByteArray) (w : World) (hc : s = bs x) (h : Bat 68 b v (Lib.byteCells l) w) (hlen : l.length + x.length ≤ 1073741824) :
    Calls Tryz.prog 86 #[.pointer (some ⟨b, 0, none⟩), .string s] w fun e w' => e = .returned (.tuple #[.int .i64 s.size, .nilIface]) ∧ Wrote 68 b v (Lib.byteCells (l ++ x)) w w' := by
  have := str_any 68 b heads_builder v (Lib.byteCells l) s w h (by rw [Lib.byteCells_length, hc, bs_size]; exact hlen)
  rw [hc, str_cells, ← byte_append] at this
  rw [hc]
  exact this
theorem wbyte_any (b : Nat) (v : Value) (l : List UInt8) (w : World) (h : Bat 68 b v (Lib.byteCells l) w) (hlen : l.length + 1 ≤ 1073741824) :
    Calls Tryz.prog 85 #[.pointer (some ⟨b, 0, none⟩), .int .u8 32] w fun e w' => e = .returned .nilIface ∧ Wrote 68 b v (Lib.byteCells (l ++ [32])) w w' := by
  have := byte_any 68 b heads_builder v (Lib.byteCells l) 32 w h (by rw [Lib.byteCells_length]; exact hlen)
  rw [byte_append]
  exact this
def PutR (L : List Nd) : Prop := maysB L = true → ∀ (b B : Nat) (v : Value) (l0 : List UInt8) (a : Option Addr) (n c : Nat) (w : World), Bat 68 b v (Lib.byteCells l0) w → Env w → EnvUnder B → B ≤ b → (∀ q, v.ownBlock = some q → B ≤ q) → NLs w B L a n → l0.length + (joinL (L.map nL)).length ≤ 1073741824 →
  Calls Tryz.prog 21 #[.pointer (some ⟨b, 0, none⟩), .slice a n c] w fun e w' => e = .returned (.tuple #[]) ∧ Wrote 68 b v (Lib.byteCells (l0 ++ joinL (L.map nL))) w w'
set_option maxHeartbeats 8000000 in
set_option maxRecDepth 100000 in
theorem put_of (L : List Nd) (hK : ∀ v ∈ L, PutR v.kids) : PutR L := by
  intro hmay b B v l0 a n c w hB hE hEB hBb hBv h hlen
  have hBs : B ≤ w.heap.size := by have := hB.lt; omega
  have hl := h.1
  rw [List.length_map] at hl
  have hn := h.2.1
  replace hl := Lib.hid hl
  replace h := Lib.hid h
  replace hK := Lib.hid hK
  replace hmay := Lib.hid hmay
  replace hB := Lib.hid hB
  replace hE := Lib.hid hE
  replace hEB := Lib.hid hEB
  replace hBv := Lib.hid hBv
  go_enter Tryz.func21, Tryz.ntmps21
  go_wp2_with fail
  go_loopw [10] (fun i wr => ∃ (k : Nat) (v' : Value), k ≤ n ∧ i = .int .i64 (k : Nat) ∧ Bat 68 b v' (Lib.byteCells (l0 ++ joinL ((L.map nL).take k))) wr ∧ Turn w wr b v v') (fun i _ => n - (intOf i).toNat)
  case atStart => exact ⟨0, v, Nat.zero_le _, rfl, by rw [List.take_zero]; show Bat _ _ _ (Lib.byteCells (l0 ++ [])) _; rw [List.append_nil]; exact hB.out, Turn.refl _ _ _⟩
  case round =>
    obtain ⟨k, v1, hk, rfl, hB1, hT1⟩ := hrel
    obtain ⟨wq, hwq⟩ : ∃ wq : World, wq = wr := ⟨_, rfl⟩
    subst hwq
    have hlow1 : Below B w wq := hT1.low hBb hBv.out hBs
    have hhigh1 : Hid (∀ q, v1.ownBlock = some q → B ≤ q) := hT1.high hBv.out hBs
    have hb1l := hB1.lt
    have hvlt1 := hB1.vlt
    have hzq := hT1.size
    by_cases hlt : k < n
    · have hlt9 : Hid (k + 1 ≤ n) := hlt
      obtain ⟨b1, o1, x, q, rfl, hb1, hg1, hc1, hv1⟩ := NLs.elem (h.out.kept hlow1) k hlt
      obtain ⟨aa, an, ac, ka, kn, kc⟩ := q
      have hmem := List.mem_of_getElem? hg1
      have hm : mayB x = true := mays_mem hmay.out x hmem
      have hKx : Hid (PutR x.kids) := hK.out x hmem
      have hstep := joined_nd hg1
      have hle := join_take_le (L.map nL) (k + 1)
      have hAq : FLs wq B x.attrs aa an := hv1.A
      have hKq : NLs wq B x.kids ka kn := hv1.K
      have hanl : Hid (an = x.attrs.length) := hv1.plain.1
      have han : an ≤ 1152921504606846976 := hv1.plain.2.2.1
      have hkn9 : kn ≤ 1152921504606846976 := hv1.plain.2.2.2
      have hxt := hv1.k2
      have hxx := hv1.k3
      have hEq : Env wq := hE.out.below hlow1 hEB.out
      have y0 : wq.cell? ⟨b1, o1 + k * 5, none⟩ = some (.int .i64 x.id) := hc1 0 (by omega)
      have y1 : wq.cell? ⟨b1, o1 + k * 5 + 1, none⟩ = some (.string x.tag) := by rw [Nat.add_assoc]; exact hc1 1 (by omega)
      have y2 : wq.cell? ⟨b1, o1 + k * 5 + 2, none⟩ = some (.string x.text) := by rw [Nat.add_assoc]; exact hc1 2 (by omega)
      have y3 : wq.cell? ⟨b1, o1 + k * 5 + 3, none⟩ = some (.slice aa an ac) := by rw [Nat.add_assoc]; exact hc1 3 (by omega)
      have y4 : wq.cell? ⟨b1, o1 + k * 5 + 4, none⟩ = some (.slice ka kn kc) := by rw [Nat.add_assoc]; exact hc1 4 (by omega)
      obtain ⟨S, hS⟩ : ∃ S, S = wq.alloc (.cells #[.int .i64 x.id, .string x.tag, .string x.text, .slice aa an ac, .slice ka kn kc] 53) := ⟨_, rfl⟩
      have hbS : Below wq.heap.size wq S := by rw [hS]; exact (Below.refl _ _).alloc (Nat.le_refl _) _
      have hrS : S.heap[wq.heap.size]? = some (.cells #[.int .i64 x.id, .string x.tag, .string x.text, .slice aa an ac, .slice ka kn kc] 53 (0, 0)) := by rw [hS]; exact heap_alloc_new wq _
      have hzS : S.heap.size = wq.heap.size + 1 := by rw [hS]; simp
      have x0 : S.cell? ⟨wq.heap.size, 0, none⟩ = some (.int .i64 x.id) := by simp [World.cell?, hrS]
      have x1 : S.cell? ⟨wq.heap.size, 1, none⟩ = some (.string x.tag) := by simp [World.cell?, hrS]
      have x2 : S.cell? ⟨wq.heap.size, 2, none⟩ = some (.string x.text) := by simp [World.cell?, hrS]
      have x3 : S.cell? ⟨wq.heap.size, 3, none⟩ = some (.slice aa an ac) := by simp [World.cell?, hrS]
      have x4 : S.cell? ⟨wq.heap.size, 4, none⟩ = some (.slice ka kn kc) := by simp [World.cell?, hrS]
      have hWS : Hid (S = _) := hS
      replace hrS := Lib.hid hrS
      clear hS
      have hBS9 : B ≤ S.heap.size := by omega
      have hAS : Hid (FLs S B x.attrs aa an) := hAq.kept (hbS.mono (by omega))
      have hKS : Hid (NLs S B x.kids ka kn) := hKq.kept (hbS.mono (by omega))
      have hES : Hid (Env S) := hEq.kept hbS
      have hBS := hB1.later hbS
      have hTS : Hid (Turn w S b v v1) := hT1.trans (Turn.below hbS)
      have hvne : Hid (∀ q, v1.ownBlock = some q → q ≠ wq.heap.size) := fun q hq e => by have := hvlt1 q hq; omega
      replace hB1 := Lib.hid hB1
      replace hT1 := Lib.hid hT1
      replace hbS := Lib.hid hbS
      replace hlow1 := Lib.hid hlow1
      replace hg1 := Lib.hid hg1
      clear hc1 hv1 hAq hKq hEq hmem hvlt1
      replace x0 := Lib.hid x0
      replace x1 := Lib.hid x1
      replace x2 := Lib.hid x2
      replace x3 := Lib.hid x3
      replace x4 := Lib.hid x4
      rcases Nat.eq_zero_or_pos k with rfl | h0
      · rw [if_pos rfl] at hstep
        have hLc : Hid (l0 ++ joinL ((L.map nL).take 0) ++ nL x = l0 ++ joinL ((L.map nL).take (0 + 1))) := by show _ = _; rw [hstep, List.append_assoc]
        have hlc : Hid ((l0 ++ joinL ((L.map nL).take 0)).length + (nL x).length ≤ 1073741824) := by
          show _ ≤ _
          rw [← List.length_append, hLc.out, List.length_append]
          omega
        have hBc := Lib.hid hBS
        have hTc : Hid (Turn S S b v1 v1) := Turn.refl _ _ _
        have hEc := hES
        clear hBS hstep hle
        simp only [Nat.zero_mul, Nat.add_zero] at y0 y1 y2 y3 y4
        have p0 := x0.out
        have p1 := x1.out
        have p2 := x2.out
        have p3 := x3.out
        have p4 := x4.out
        rcases may_parts hm with ⟨ht0, ha0, hk0, hx4⟩ | ⟨ht0, htl, hx0, hab, hmk⟩
        · skip
          have cQ := Lib.hid (showQuoted_any x.text S hEc.out hx4)
          have ht1 := size_zero (show ¬ 0 < x.tag.size by omega)
          rw [ht1] at p1
          obtain ⟨Q9, hQ9⟩ : ∃ Q9, Q9 = bs (quoteL x.text.data.toList) := ⟨_, rfl⟩
          rw [← hQ9] at cQ
          replace hQ9 := Lib.hid hQ9
          have hnx : nL x = quoteL x.text.data.toList := by rw [nL_eq, if_pos ht0]
          rw [hnx] at hLc hlc
          replace ht1 := Lib.hid ht1
          replace ht0 := Lib.hid ht0
          clear hnx ha0 hk0
          go_wp2_with (first | (rw [← hWS.out]) | (go_at_call 87; refine cQ.out.mono ?_))
          first | rintro e w5 rfl hb5 | rintro e w5 ⟨rfl, hb5⟩
          have cW := Lib.hid (wstr_any b v1 (l0 ++ joinL ((L.map nL).take 0)) (quoteL x.text.data.toList) Q9 w5 hQ9.out (hBc.out.later hb5) hlc.out)
          have hT5 := Lib.hid (hTc.out.trans (Turn.below hb5))
          clear hb5
          clear p0 p1 p2 p3 p4
          go_wp2_with (go_at_call 86; refine cW.out.mono ?_)
          rintro e w6 ⟨rfl, v6, hB6, hT6⟩
          rw [hLc.out] at hB6
          have hT6' := Lib.hid (hTS.out.trans (hT5.out.trans hT6))
          replace hB6 := Lib.hid hB6
          clear hT6
          go_wp2_with fail
          go_roundw
          case rel => exact ⟨0 + 1, v6, hlt9.out, by go_num, hB6.out, hT6'.out⟩
          case measure => simp [intOf]; have := hlt9.out; omega
        · clear hx0
          have cQ := Lib.hid (showQuoted_any x.tag S hEc.out htl)
          have e1 := ne_empty ht0
          have e2 := not_isEmpty ht0
          obtain ⟨Q9, hQ9⟩ : ∃ Q9, Q9 = bs (quoteL x.tag.data.toList) := ⟨_, rfl⟩
          rw [← hQ9] at cQ
          have hq9 : Q9.size ≤ 8194 := by rw [hQ9, bs_size]; have := quote_len x.tag; omega
          replace hQ9 := Lib.hid hQ9
          have hnx : nL x = 40 :: (quoteL x.tag.data.toList ++ 32 :: 123 :: (joinL (x.attrs.map fL) ++ 125 :: 32 :: 91 :: (joinL (x.kids.map nL) ++ [93, 41]))) := by rw [nL_eq, if_neg (by omega)]
          have hnl : (nL x).length = (quoteL x.tag.data.toList).length + (joinL (x.attrs.map fL)).length + (joinL (x.kids.map nL)).length + 8 := by rw [hnx]; simp; omega
          have hl9 : (l0 ++ joinL ((L.map nL).take 0)).length + ((quoteL x.tag.data.toList).length + (joinL (x.attrs.map fL)).length + (joinL (x.kids.map nL)).length + 8) ≤ 1073741824 := by rw [← hnl]; exact hlc.out
          rw [hnx] at hLc
          obtain ⟨l2, hl2⟩ : ∃ l2, l2 = l0 ++ joinL ((L.map nL).take 0) ++ 40 :: (quoteL x.tag.data.toList ++ [32, 123]) := ⟨_, rfl⟩
          have hl2n : l2.length = (l0 ++ joinL ((L.map nL).take 0)).length + (quoteL x.tag.data.toList).length + 3 := by rw [hl2]; simp; omega
          have hLd : Hid ((l2 ++ joinL (x.attrs.map fL) ++ [125, 32, 91] ++ joinL (x.kids.map nL)) ++ [93, 41] = l0 ++ joinL ((L.map nL).take (0 + 1))) := by show _ = _; rw [← hLc.out, hl2]; simp
          have hl8 : Hid (l2.length + (joinL (x.attrs.map fL)).length + (joinL (x.kids.map nL)).length + 5 ≤ 1073741824) := by show _ ≤ _; omega
          clear hnl hnx hl2n hl9
          replace ht0 := Lib.hid ht0
          go_wp2_with (first | (rw [← hWS.out]) | (go_at_call 87; refine cQ.out.mono ?_))
          first | rintro e w5 rfl hb5 | rintro e w5 ⟨rfl, hb5⟩
          have cW := wstr_any b v1 (l0 ++ joinL ((L.map nL).take 0)) (40 :: (quoteL x.tag.data.toList ++ [32, 123])) (ByteArray.mk #[40] ++ Q9 ++ ByteArray.mk #[32, 123]) w5 (by rw [hQ9.out]; show bs [40] ++ bs _ ++ bs [32, 123] = _; rw [bs_append, bs_append]; simp) (hBc.out.later hb5) (by have := hl8.out; rw [hl2] at this; simp only [List.length_cons, List.length_append, List.length_nil] at this ⊢; omega)
          rw [← hl2] at cW
          have hT5 : Turn S w5 b v1 v1 := hTc.out.trans (Turn.below hb5)
          replace cW := Lib.hid cW
          replace hl2 := Lib.hid hl2
          have hzw5 := hb5.size
          clear hb5
          clear p0 p1 p2 p3 p4
          replace hT5 := Lib.hid hT5
          go_wp2_with (go_at_call 86; refine cW.out.mono ?_)
          rintro e w6 ⟨rfl, v6, hB6, hT6⟩
          have hT6' : Turn S w6 b v1 v6 := hT5.out.trans hT6
          have p0 := (hT6'.cell (a := ⟨wq.heap.size, 0, none⟩) (by show wq.heap.size < _; omega) (by show wq.heap.size ≠ _; omega) hvne.out).trans x0.out
          have p1 := (hT6'.cell (a := ⟨wq.heap.size, 1, none⟩) (by show wq.heap.size < _; omega) (by show wq.heap.size ≠ _; omega) hvne.out).trans x1.out
          have p2 := (hT6'.cell (a := ⟨wq.heap.size, 2, none⟩) (by show wq.heap.size < _; omega) (by show wq.heap.size ≠ _; omega) hvne.out).trans x2.out
          have p3 := (hT6'.cell (a := ⟨wq.heap.size, 3, none⟩) (by show wq.heap.size < _; omega) (by show wq.heap.size ≠ _; omega) hvne.out).trans x3.out
          have p4 := (hT6'.cell (a := ⟨wq.heap.size, 4, none⟩) (by show wq.heap.size < _; omega) (by show wq.heap.size ≠ _; omega) hvne.out).trans x4.out
          clear hT6
          replace hT6' := Lib.hid hT6'
          replace hB6 := Lib.hid hB6
          go_wp2_with fail
          go_loopw [37] (fun i wy => ∃ (m : Nat) (vy : Value), m ≤ an ∧ i = .int .i64 (m : Nat) ∧ Bat 68 b vy (Lib.byteCells (l2 ++ joinL ((x.attrs.map fL).take m))) wy ∧ Turn S wy b v1 vy) (fun i _ => an - (intOf i).toNat)
          case atStart => exact ⟨0, v6, Nat.zero_le _, rfl, by rw [List.take_zero]; show Bat _ _ _ (Lib.byteCells (l2 ++ [])) _; rw [List.append_nil]; exact hB6.out, hT6'.out⟩
          case round =>
            clear p0 p1 p2 p3 p4
            obtain ⟨m, vy, hm9, rfl, hBy, hTy⟩ := hrel
            obtain ⟨wy, hwy⟩ : ∃ wy : World, wy = wr := ⟨_, rfl⟩
            subst hwy
            have hlowy : Below B S wy := hTy.low hBb hhigh1.out hBS9
            have hhighy : Hid (∀ q, vy.ownBlock = some q → B ≤ q) := hTy.high hhigh1.out hBS9
            have hzy := hTy.size
            have hby := hBy.lt
            have hvlt := Lib.hid hBy.vlt
            have hjl := join_take_le (x.attrs.map fL) m
            by_cases hmt : m < an
            · have hmt9 : Hid (m + 1 ≤ an) := hmt
              obtain ⟨b2, o2, f, q, rfl, hb2, hg2, hc2, hf2⟩ := FLs.elem (hAS.out.kept hlowy) m hmt
              have hmem := List.mem_of_getElem? hg2
              have hkd : Hid (f.value.kind = 1 ∨ f.value.kind = 2 ∨ f.value.kind = 3) := shown_of hab f hmem
              have hfk := Lib.hid hf2.val.k2
              have hap := attr_parts hab f hmem
              have hpp := hf2.val.plain
              have hpl : Hid (plainP f.value.kind f.value.n f.value.s q.ln q.fn f.value.elem f.value.key f.value.hk = true) := by show _ = true; rw [hpp.1, hpp.2.1]; exact hap.2.2
              have hfn : f.name.size ≤ 4096 := hap.1
              have hfs : f.value.s.size ≤ 4096 := hap.2.1
              have hstepm := joined_mem hg2
              have hlem := join_take_le (x.attrs.map fL) (m + 1)
              have hql := quote_len f.name
              have hvl := vP_len f.value.kind f.value.n f.value.s hf2.val.k2
              obtain ⟨Q8, hQ8⟩ : ∃ Q8, Q8 = bs (quoteL f.name.data.toList) := ⟨_, rfl⟩
              obtain ⟨V8, hV8⟩ : ∃ V8, V8 = bs (vP f.value.kind f.value.n f.value.s) := ⟨_, rfl⟩
              have hq8 : Q8.size ≤ 8194 := by rw [hQ8, bs_size]; omega
              have hv8 : V8.size ≤ 8216 := by rw [hV8, bs_size]; omega
              have hFy : FLs wy B f.value.F q.fa q.fn := hf2.val.F
              have hEy : Env wy := hES.out.below hlowy hEB.out
              replace hQ8 := Lib.hid hQ8
              replace hV8 := Lib.hid hV8
              clear hap hpp hmem hql hvl hf2
              have y0 : wy.cell? ⟨b2, o2 + m * 9, none⟩ = some (.string f.name) := hc2 0 (by omega)
              have y1 : wy.cell? ⟨b2, o2 + m * 9 + 1, none⟩ = some (.int .u8 f.value.kind) := by rw [Nat.add_assoc]; exact hc2 1 (by omega)
              have y2 : wy.cell? ⟨b2, o2 + m * 9 + 2, none⟩ = some (.int .i64 f.value.n) := by rw [Nat.add_assoc]; exact hc2 2 (by omega)
              have y3 : wy.cell? ⟨b2, o2 + m * 9 + 3, none⟩ = some (.string f.value.s) := by rw [Nat.add_assoc]; exact hc2 3 (by omega)
              have y4 : wy.cell? ⟨b2, o2 + m * 9 + 4, none⟩ = some (.slice q.la q.ln q.lc) := by rw [Nat.add_assoc]; exact hc2 4 (by omega)
              have y5 : wy.cell? ⟨b2, o2 + m * 9 + 5, none⟩ = some (.slice q.fa q.fn q.fc) := by rw [Nat.add_assoc]; exact hc2 5 (by omega)
              have y6 : wy.cell? ⟨b2, o2 + m * 9 + 6, none⟩ = some (.int .u8 f.value.elem) := by rw [Nat.add_assoc]; exact hc2 6 (by omega)
              have y7 : wy.cell? ⟨b2, o2 + m * 9 + 7, none⟩ = some (.string f.value.key) := by rw [Nat.add_assoc]; exact hc2 7 (by omega)
              have y8 : wy.cell? ⟨b2, o2 + m * 9 + 8, none⟩ = some (.bool f.value.hk) := by rw [Nat.add_assoc]; exact hc2 8 (by omega)
              obtain ⟨S9, hS9⟩ : ∃ S9, S9 = wy.alloc (.cells #[.string f.name, .int .u8 f.value.kind, .int .i64 f.value.n, .string f.value.s, .slice q.la q.ln q.lc, .slice q.fa q.fn q.fc, .int .u8 f.value.elem, .string f.value.key, .bool f.value.hk] 61) := ⟨_, rfl⟩
              have hbS9 : Below wy.heap.size wy S9 := by rw [hS9]; exact (Below.refl _ _).alloc (Nat.le_refl _) _
              have hrS9 : S9.heap[wy.heap.size]? = some (.cells #[.string f.name, .int .u8 f.value.kind, .int .i64 f.value.n, .string f.value.s, .slice q.la q.ln q.lc, .slice q.fa q.fn q.fc, .int .u8 f.value.elem, .string f.value.key, .bool f.value.hk] 61 (0, 0)) := by rw [hS9]; exact heap_alloc_new wy _
              have hzS9 : S9.heap.size = wy.heap.size + 1 := by rw [hS9]; simp
              have t0 : S9.cell? ⟨wy.heap.size, 0, none⟩ = some (.string f.name) := by simp [World.cell?, hrS9]
              have t1 : S9.cell? ⟨wy.heap.size, 1, none⟩ = some (.int .u8 f.value.kind) := by simp [World.cell?, hrS9]
              have t2 : S9.cell? ⟨wy.heap.size, 2, none⟩ = some (.int .i64 f.value.n) := by simp [World.cell?, hrS9]
              have t3 : S9.cell? ⟨wy.heap.size, 3, none⟩ = some (.string f.value.s) := by simp [World.cell?, hrS9]
              have t4 : S9.cell? ⟨wy.heap.size, 4, none⟩ = some (.slice q.la q.ln q.lc) := by simp [World.cell?, hrS9]
              have t5 : S9.cell? ⟨wy.heap.size, 5, none⟩ = some (.slice q.fa q.fn q.fc) := by simp [World.cell?, hrS9]
              have t6 : S9.cell? ⟨wy.heap.size, 6, none⟩ = some (.int .u8 f.value.elem) := by simp [World.cell?, hrS9]
              have t7 : S9.cell? ⟨wy.heap.size, 7, none⟩ = some (.string f.value.key) := by simp [World.cell?, hrS9]
              have t8 : S9.cell? ⟨wy.heap.size, 8, none⟩ = some (.bool f.value.hk) := by simp [World.cell?, hrS9]
              have hWS9 : Hid (S9 = _) := hS9
              replace hrS9 := Lib.hid hrS9
              clear hS9
              have hB9 := hBy.later hbS9
              have hT9s : Turn S S9 b v1 vy := hTy.trans (Turn.below hbS9)
              have hE9 : Env S9 := hEy.kept hbS9
              have hF9 : FLs S9 B f.value.F q.fa q.fn := hFy.kept (hbS9.mono (by omega))
              replace hBy := Lib.hid hBy
              replace hTy := Lib.hid hTy
              replace hlowy := Lib.hid hlowy
              replace hbS9 := Lib.hid hbS9
              replace hg2 := Lib.hid hg2
              clear hc2
              rcases Nat.eq_zero_or_pos m with rfl | hm0
              · rw [if_pos rfl] at hstepm
                have hLm : Hid (l2 ++ joinL ((x.attrs.map fL).take 0) ++ fL f = l2 ++ joinL ((x.attrs.map fL).take (0 + 1))) := by show _ = _; rw [hstepm, List.append_assoc]
                have hlm : Hid ((l2 ++ joinL ((x.attrs.map fL).take 0)).length + (fL f).length ≤ 1073741824) := by
                  show _ ≤ _
                  rw [← List.length_append, hLm.out, List.length_append]
                  have := hl8.out; omega
                have hBm := Lib.hid hB9
                have hTm := Lib.hid hT9s
                have hEm := Lib.hid hE9
                have hFm := Lib.hid hF9
                clear hstepm hlem hB9 hT9s hE9 hF9 hjl
                simp only [Nat.zero_mul, Nat.add_zero] at y0 y1 y2 y3 y4 y5 y6 y7 y8
                go_wp2_with (first | (rw [← hWS9.out]))
                clear y0 y1 y2 y3 y4 y5 y6 y7 y8
                have t0' : ∀ d : LowW S9, d.w.cell? ⟨wy.heap.size, 0, none⟩ = some (.string f.name) := fun d => (d.cell (by show wy.heap.size < _; omega)).trans t0
                have t1' : ∀ d : LowW S9, d.w.cell? ⟨wy.heap.size, 1, none⟩ = some (.int .u8 f.value.kind) := fun d => (d.cell (by show wy.heap.size < _; omega)).trans t1
                have t2' : ∀ d : LowW S9, d.w.cell? ⟨wy.heap.size, 2, none⟩ = some (.int .i64 f.value.n) := fun d => (d.cell (by show wy.heap.size < _; omega)).trans t2
                have t3' : ∀ d : LowW S9, d.w.cell? ⟨wy.heap.size, 3, none⟩ = some (.string f.value.s) := fun d => (d.cell (by show wy.heap.size < _; omega)).trans t3
                have t4' : ∀ d : LowW S9, d.w.cell? ⟨wy.heap.size, 4, none⟩ = some (.slice q.la q.ln q.lc) := fun d => (d.cell (by show wy.heap.size < _; omega)).trans t4
                have t5' : ∀ d : LowW S9, d.w.cell? ⟨wy.heap.size, 5, none⟩ = some (.slice q.fa q.fn q.fc) := fun d => (d.cell (by show wy.heap.size < _; omega)).trans t5
                have t6' : ∀ d : LowW S9, d.w.cell? ⟨wy.heap.size, 6, none⟩ = some (.int .u8 f.value.elem) := fun d => (d.cell (by show wy.heap.size < _; omega)).trans t6
                have t7' : ∀ d : LowW S9, d.w.cell? ⟨wy.heap.size, 7, none⟩ = some (.string f.value.key) := fun d => (d.cell (by show wy.heap.size < _; omega)).trans t7
                have t8' : ∀ d : LowW S9, d.w.cell? ⟨wy.heap.size, 8, none⟩ = some (.bool f.value.hk) := fun d => (d.cell (by show wy.heap.size < _; omega)).trans t8
                clear t0 t1 t2 t3 t4 t5 t6 t7 t8
                have cQ : ∀ d : LowW S9, Calls Tryz.prog 87 #[.string f.name] d.w fun e w' => e = .returned (.string Q8) ∧ ∃ d' : LowW S9, w' = d'.w := fun d => by
                  refine (showQuoted_any f.name d.w (hEm.out.kept d.low) hfn).mono ?_
                  rintro e w' ⟨rfl, h⟩
                  exact ⟨by rw [hQ8.out], d.more h⟩
                have cT : ∀ d : LowW S9, Calls Tryz.prog 88 #[.agg #[.int .u8 f.value.kind, .int .i64 f.value.n, .string f.value.s, .slice q.la q.ln q.lc, .slice q.fa q.fn q.fc, .int .u8 f.value.elem, .string f.value.key, .bool f.value.hk]] d.w fun e w' => e = .returned (.string V8) ∧ ∃ d' : LowW S9, w' = d'.w := fun d => by
                  refine (valText_any f.value.kind f.value.n f.value.s q.la q.fa q.ln q.lc q.fn q.fc f.value.elem f.value.key f.value.hk f.value.F d.w (hEm.out.kept d.low) ((hFm.out.kept (d.low.mono (by omega))).mono (by have := d.low.size; omega)) hkd.out hfk.out hpl.out hfs).mono ?_
                  rintro e w' ⟨rfl, h⟩
                  exact ⟨by rw [hV8.out], d.more h⟩
                have cW : ∀ d : LowW S9, Calls Tryz.prog 86 #[.pointer (some ⟨b, 0, none⟩), .string (Q8 ++ ByteArray.mk #[32] ++ V8)] d.w fun e w' => e = .returned (.tuple #[.int .i64 (Q8 ++ ByteArray.mk #[32] ++ V8).size, .nilIface]) ∧ Wrote 68 b vy (Lib.byteCells (l2 ++ joinL ((x.attrs.map fL).take 0) ++ fL f)) d.w w' := fun d =>
                  wstr_any b vy (l2 ++ joinL ((x.attrs.map fL).take 0)) (fL f) (Q8 ++ ByteArray.mk #[32] ++ V8) d.w (by rw [hQ8.out, hV8.out]; show bs _ ++ bs [32] ++ bs _ = _; rw [bs_append, bs_append]; simp [fL]) (hBm.out.later d.low) hlm.out
                replace cQ := Lib.hid cQ
                replace cT := Lib.hid cT
                replace cW := Lib.hid cW
                refine wp_region_low_last 9 rfl rfl (by kernel_rfl) (by kernel_rfl) (by kernel_rfl) ?_
                simp only [List.take_succ_cons, List.take_zero]
                repeat (go_big_quiet_step (first | (go_at_call 87; exact cQ.out _) | (go_at_call 88; exact cT.out _)))
                refine wpQuiet_nil ?_
                rintro _ ⟨d, rfl⟩ K hK
                go_simp
                go_at_call 86
                refine (cW.out d).mono ?_
                rintro e w9 ⟨rfl, v9, hB9, hT9⟩
                refine hK.out _ _ ?_
                clear hK K
                rw [hLm.out] at hB9
                have hT9' : Hid (Turn S w9 b v1 v9) := hTm.out.trans ((Turn.below d.low).trans hT9)
                replace hB9 := Lib.hid hB9
                clear hT9
                go_wp2_with fail
                go_roundw
                case rel => exact ⟨0 + 1, v9, hmt9.out, by go_num, hB9.out, hT9'.out⟩
                case measure => simp [intOf]; have := hmt9.out; omega
              · rw [if_neg (by omega)] at hstepm
                have hLm : Hid (l2 ++ joinL ((x.attrs.map fL).take m) ++ [32] ++ fL f = l2 ++ joinL ((x.attrs.map fL).take (m + 1))) := by show _ = _; rw [hstepm]; simp
                have hlm : Hid ((l2 ++ joinL ((x.attrs.map fL).take m) ++ [32]).length + (fL f).length ≤ 1073741824) := by
                  show _ ≤ _
                  rw [← List.length_append, hLm.out, List.length_append]
                  have := hl8.out; omega
                have cB := Lib.hid (wbyte_any b vy (l2 ++ joinL ((x.attrs.map fL).take m)) S9 hB9 (by rw [List.length_append]; have := hl8.out; omega))
                replace hB9 := Lib.hid hB9
                replace hT9s := Lib.hid hT9s
                replace hE9 := Lib.hid hE9
                replace hF9 := Lib.hid hF9
                clear hstepm hlem hjl
                go_wp2_with (first | (rw [← hWS9.out]) | (go_at_call 85; refine cB.out.mono ?_))
                rintro e w8 ⟨rfl, v8, hB8, hT8⟩
                clear y0 y1 y2 y3 y4 y5 y6 y7 y8
                have hlow8 : Below B S9 w8 := hT8.low hBb hhighy.out (by omega)
                have hBm := Lib.hid hB8
                have hTm := Lib.hid (hT9s.out.trans hT8)
                have hEm := Lib.hid (hE9.out.below hlow8 hEB.out)
                have hFm := Lib.hid (hF9.out.kept hlow8)
                have hz8 := hT8.size
                replace t0 := (hT8.cell (a := ⟨wy.heap.size, 0, none⟩) (by show wy.heap.size < _; omega) (by show wy.heap.size ≠ _; omega) (fun q hq => by have := hvlt.out q hq; show q ≠ wy.heap.size; omega)).trans t0
                replace t1 := (hT8.cell (a := ⟨wy.heap.size, 1, none⟩) (by show wy.heap.size < _; omega) (by show wy.heap.size ≠ _; omega) (fun q hq => by have := hvlt.out q hq; show q ≠ wy.heap.size; omega)).trans t1
                replace t2 := (hT8.cell (a := ⟨wy.heap.size, 2, none⟩) (by show wy.heap.size < _; omega) (by show wy.heap.size ≠ _; omega) (fun q hq => by have := hvlt.out q hq; show q ≠ wy.heap.size; omega)).trans t2
                replace t3 := (hT8.cell (a := ⟨wy.heap.size, 3, none⟩) (by show wy.heap.size < _; omega) (by show wy.heap.size ≠ _; omega) (fun q hq => by have := hvlt.out q hq; show q ≠ wy.heap.size; omega)).trans t3
                replace t4 := (hT8.cell (a := ⟨wy.heap.size, 4, none⟩) (by show wy.heap.size < _; omega) (by show wy.heap.size ≠ _; omega) (fun q hq => by have := hvlt.out q hq; show q ≠ wy.heap.size; omega)).trans t4
                replace t5 := (hT8.cell (a := ⟨wy.heap.size, 5, none⟩) (by show wy.heap.size < _; omega) (by show wy.heap.size ≠ _; omega) (fun q hq => by have := hvlt.out q hq; show q ≠ wy.heap.size; omega)).trans t5
                replace t6 := (hT8.cell (a := ⟨wy.heap.size, 6, none⟩) (by show wy.heap.size < _; omega) (by show wy.heap.size ≠ _; omega) (fun q hq => by have := hvlt.out q hq; show q ≠ wy.heap.size; omega)).trans t6
                replace t7 := (hT8.cell (a := ⟨wy.heap.size, 7, none⟩) (by show wy.heap.size < _; omega) (by show wy.heap.size ≠ _; omega) (fun q hq => by have := hvlt.out q hq; show q ≠ wy.heap.size; omega)).trans t7
                replace t8 := (hT8.cell (a := ⟨wy.heap.size, 8, none⟩) (by show wy.heap.size < _; omega) (by show wy.heap.size ≠ _; omega) (fun q hq => by have := hvlt.out q hq; show q ≠ wy.heap.size; omega)).trans t8
                clear hB8 hT8 hB9 hT9s hE9 hF9 hlow8
                have t0' : ∀ d : LowW w8, d.w.cell? ⟨wy.heap.size, 0, none⟩ = some (.string f.name) := fun d => (d.cell (by show wy.heap.size < _; omega)).trans t0
                have t1' : ∀ d : LowW w8, d.w.cell? ⟨wy.heap.size, 1, none⟩ = some (.int .u8 f.value.kind) := fun d => (d.cell (by show wy.heap.size < _; omega)).trans t1
                have t2' : ∀ d : LowW w8, d.w.cell? ⟨wy.heap.size, 2, none⟩ = some (.int .i64 f.value.n) := fun d => (d.cell (by show wy.heap.size < _; omega)).trans t2
                have t3' : ∀ d : LowW w8, d.w.cell? ⟨wy.heap.size, 3, none⟩ = some (.string f.value.s) := fun d => (d.cell (by show wy.heap.size < _; omega)).trans t3
                have t4' : ∀ d : LowW w8, d.w.cell? ⟨wy.heap.size, 4, none⟩ = some (.slice q.la q.ln q.lc) := fun d => (d.cell (by show wy.heap.size < _; omega)).trans t4
                have t5' : ∀ d : LowW w8, d.w.cell? ⟨wy.heap.size, 5, none⟩ = some (.slice q.fa q.fn q.fc) := fun d => (d.cell (by show wy.heap.size < _; omega)).trans t5
                have t6' : ∀ d : LowW w8, d.w.cell? ⟨wy.heap.size, 6, none⟩ = some (.int .u8 f.value.elem) := fun d => (d.cell (by show wy.heap.size < _; omega)).trans t6
                have t7' : ∀ d : LowW w8, d.w.cell? ⟨wy.heap.size, 7, none⟩ = some (.string f.value.key) := fun d => (d.cell (by show wy.heap.size < _; omega)).trans t7
                have t8' : ∀ d : LowW w8, d.w.cell? ⟨wy.heap.size, 8, none⟩ = some (.bool f.value.hk) := fun d => (d.cell (by show wy.heap.size < _; omega)).trans t8
                clear t0 t1 t2 t3 t4 t5 t6 t7 t8
                have cQ : ∀ d : LowW w8, Calls Tryz.prog 87 #[.string f.name] d.w fun e w' => e = .returned (.string Q8) ∧ ∃ d' : LowW w8, w' = d'.w := fun d => by
                  refine (showQuoted_any f.name d.w (hEm.out.kept d.low) hfn).mono ?_
                  rintro e w' ⟨rfl, h⟩
                  exact ⟨by rw [hQ8.out], d.more h⟩
                have cT : ∀ d : LowW w8, Calls Tryz.prog 88 #[.agg #[.int .u8 f.value.kind, .int .i64 f.value.n, .string f.value.s, .slice q.la q.ln q.lc, .slice q.fa q.fn q.fc, .int .u8 f.value.elem, .string f.value.key, .bool f.value.hk]] d.w fun e w' => e = .returned (.string V8) ∧ ∃ d' : LowW w8, w' = d'.w := fun d => by
                  refine (valText_any f.value.kind f.value.n f.value.s q.la q.fa q.ln q.lc q.fn q.fc f.value.elem f.value.key f.value.hk f.value.F d.w (hEm.out.kept d.low) ((hFm.out.kept (d.low.mono (by omega))).mono (by have := d.low.size; omega)) hkd.out hfk.out hpl.out hfs).mono ?_
                  rintro e w' ⟨rfl, h⟩
                  exact ⟨by rw [hV8.out], d.more h⟩
                have cW : ∀ d : LowW w8, Calls Tryz.prog 86 #[.pointer (some ⟨b, 0, none⟩), .string (Q8 ++ ByteArray.mk #[32] ++ V8)] d.w fun e w' => e = .returned (.tuple #[.int .i64 (Q8 ++ ByteArray.mk #[32] ++ V8).size, .nilIface]) ∧ Wrote 68 b v8 (Lib.byteCells (l2 ++ joinL ((x.attrs.map fL).take m) ++ [32] ++ fL f)) d.w w' := fun d =>
                  wstr_any b v8 (l2 ++ joinL ((x.attrs.map fL).take m) ++ [32]) (fL f) (Q8 ++ ByteArray.mk #[32] ++ V8) d.w (by rw [hQ8.out, hV8.out]; show bs _ ++ bs [32] ++ bs _ = _; rw [bs_append, bs_append]; simp [fL]) (hBm.out.later d.low) hlm.out
                replace cQ := Lib.hid cQ
                replace cT := Lib.hid cT
                replace cW := Lib.hid cW
                go_wp2_with fail
                refine wp_region_low_last 9 rfl rfl (by kernel_rfl) (by kernel_rfl) (by kernel_rfl) ?_
                simp only [List.take_succ_cons, List.take_zero]
                repeat (go_big_quiet_step (first | (go_at_call 87; exact cQ.out _) | (go_at_call 88; exact cT.out _)))
                refine wpQuiet_nil ?_
                rintro _ ⟨d, rfl⟩ K hK
                go_simp
                go_at_call 86
                refine (cW.out d).mono ?_
                rintro e w9 ⟨rfl, v9, hB9, hT9⟩
                refine hK.out _ _ ?_
                clear hK K
                rw [hLm.out] at hB9
                have hT9' : Hid (Turn S w9 b v1 v9) := hTm.out.trans ((Turn.below d.low).trans hT9)
                replace hB9 := Lib.hid hB9
                clear hT9
                go_wp2_with fail
                go_roundw
                case rel => exact ⟨m + 1, v9, hmt9.out, by go_num, hB9.out, hT9'.out⟩
                case measure => simp [intOf]; have := hmt9.out; omega
            · have hmn : an = m := by omega
              subst hmn
              have htk : (x.attrs.map fL).take an = x.attrs.map fL := List.take_of_length_le (by rw [List.length_map]; have := hanl.out; omega)
              rw [htk] at hBy
              clear htk
              have p0 := (hTy.cell (a := ⟨wq.heap.size, 0, none⟩) (by show wq.heap.size < _; omega) (by show wq.heap.size ≠ _; omega) hvne.out).trans x0.out
              have p1 := (hTy.cell (a := ⟨wq.heap.size, 1, none⟩) (by show wq.heap.size < _; omega) (by show wq.heap.size ≠ _; omega) hvne.out).trans x1.out
              have p2 := (hTy.cell (a := ⟨wq.heap.size, 2, none⟩) (by show wq.heap.size < _; omega) (by show wq.heap.size ≠ _; omega) hvne.out).trans x2.out
              have p3 := (hTy.cell (a := ⟨wq.heap.size, 3, none⟩) (by show wq.heap.size < _; omega) (by show wq.heap.size ≠ _; omega) hvne.out).trans x3.out
              have p4 := (hTy.cell (a := ⟨wq.heap.size, 4, none⟩) (by show wq.heap.size < _; omega) (by show wq.heap.size ≠ _; omega) hvne.out).trans x4.out
              have cW2 := Lib.hid (wstr_any b vy (l2 ++ joinL (x.attrs.map fL)) [125, 32, 91] ⟨#[125, 32, 91]⟩ wy rfl hBy (by simp only [List.length_append, List.length_cons, List.length_nil]; have := hl8.out; omega))
              replace hBy := Lib.hid hBy
              replace hTy := Lib.hid hTy
              replace hlowy := Lib.hid hlowy
              go_wp2_with (go_at_call 86; refine cW2.out.mono ?_)
              rintro e w7 ⟨rfl, v7, hB7, hT7⟩
              clear p0 p1 p2 p3 p4
              have hT7' : Turn S w7 b v1 v7 := hTy.out.trans hT7
              have p0 := (hT7'.cell (a := ⟨wq.heap.size, 0, none⟩) (by show wq.heap.size < _; omega) (by show wq.heap.size ≠ _; omega) hvne.out).trans x0.out
              have p1 := (hT7'.cell (a := ⟨wq.heap.size, 1, none⟩) (by show wq.heap.size < _; omega) (by show wq.heap.size ≠ _; omega) hvne.out).trans x1.out
              have p2 := (hT7'.cell (a := ⟨wq.heap.size, 2, none⟩) (by show wq.heap.size < _; omega) (by show wq.heap.size ≠ _; omega) hvne.out).trans x2.out
              have p3 := (hT7'.cell (a := ⟨wq.heap.size, 3, none⟩) (by show wq.heap.size < _; omega) (by show wq.heap.size ≠ _; omega) hvne.out).trans x3.out
              have p4 := (hT7'.cell (a := ⟨wq.heap.size, 4, none⟩) (by show wq.heap.size < _; omega) (by show wq.heap.size ≠ _; omega) hvne.out).trans x4.out
              have hlow7 : Below B S w7 := hT7'.low hBb hhigh1.out hBS9
              have cP := hKx.out hmk b B v7 (l2 ++ joinL (x.attrs.map fL) ++ [125, 32, 91]) ka kn kc w7 hB7 (hES.out.below hlow7 hEB.out) hEB.out hBb (hT7'.high hhigh1.out hBS9) (hKS.out.kept hlow7) (by simp only [List.length_append, List.length_cons, List.length_nil]; have := hl8.out; omega)
              replace cP := Lib.hid cP
              replace hT7' := Lib.hid hT7'
              clear hB7 hT7 hlow7
              go_wp2_with (go_at_call 21; refine cP.out.mono ?_)
              rintro e w8 ⟨rfl, v8, hB8, hT8⟩
              clear p0 p1 p2 p3 p4
              have cW3 := Lib.hid (wstr_any b v8 (l2 ++ joinL (x.attrs.map fL) ++ [125, 32, 91] ++ joinL (x.kids.map nL)) [93, 41] ⟨#[93, 41]⟩ w8 rfl hB8 (by simp only [List.length_append, List.length_cons, List.length_nil]; have := hl8.out; omega))
              have hT8' := Lib.hid (hT7'.out.trans hT8)
              clear hB8 hT8
              go_wp2_with (go_at_call 86; refine cW3.out.mono ?_)
              rintro e w9 ⟨rfl, v9, hB9, hT9⟩
              rw [hLd.out] at hB9
              have hT9' := Lib.hid (hTS.out.trans (hT8'.out.trans hT9))
              replace hB9 := Lib.hid hB9
              clear hT9
              go_wp2_with fail
              go_roundw
              case rel => exact ⟨0 + 1, v9, hlt9.out, by go_num, hB9.out, hT9'.out⟩
              case measure => simp [intOf]; have := hlt9.out; omega
      · rw [if_neg (by omega)] at hstep
        have hLc : Hid (l0 ++ joinL ((L.map nL).take k) ++ [32] ++ nL x = l0 ++ joinL ((L.map nL).take (k + 1))) := by show _ = _; rw [hstep]; simp
        have hlc : Hid ((l0 ++ joinL ((L.map nL).take k) ++ [32]).length + (nL x).length ≤ 1073741824) := by
          show _ ≤ _
          rw [← List.length_append, hLc.out, List.length_append]
          omega
        have cB := Lib.hid (wbyte_any b v1 (l0 ++ joinL ((L.map nL).take k)) S hBS (by have := hlc.out; simp only [List.length_append, List.length_cons, List.length_nil] at this ⊢; omega))
        replace hBS := Lib.hid hBS
        clear hstep hle
        go_wp2_with (first | (rw [← hWS.out]) | (go_at_call 85; refine cB.out.mono ?_))
        rintro e w4 ⟨rfl, v4, hB4, hT4⟩
        have p0 := (hT4.cell (a := ⟨wq.heap.size, 0, none⟩) (by show wq.heap.size < _; omega) (by show wq.heap.size ≠ _; omega) hvne.out).trans x0.out
        have p1 := (hT4.cell (a := ⟨wq.heap.size, 1, none⟩) (by show wq.heap.size < _; omega) (by show wq.heap.size ≠ _; omega) hvne.out).trans x1.out
        have p2 := (hT4.cell (a := ⟨wq.heap.size, 2, none⟩) (by show wq.heap.size < _; omega) (by show wq.heap.size ≠ _; omega) hvne.out).trans x2.out
        have p3 := (hT4.cell (a := ⟨wq.heap.size, 3, none⟩) (by show wq.heap.size < _; omega) (by show wq.heap.size ≠ _; omega) hvne.out).trans x3.out
        have p4 := (hT4.cell (a := ⟨wq.heap.size, 4, none⟩) (by show wq.heap.size < _; omega) (by show wq.heap.size ≠ _; omega) hvne.out).trans x4.out
        have hBc := Lib.hid hB4
        have hEc : Hid (Env w4) := hES.out.below (hT4.low hBb hhigh1.out hBS9) hEB.out
        have hzc := hT4.size
        have hTc := Lib.hid hT4
        clear hB4 hT4 y0 y1 y2 y3 y4
        rcases may_parts hm with ⟨ht0, ha0, hk0, hx4⟩ | ⟨ht0, htl, hx0, hab, hmk⟩
        · skip
          have cQ := Lib.hid (showQuoted_any x.text w4 hEc.out hx4)
          have ht1 := size_zero (show ¬ 0 < x.tag.size by omega)
          rw [ht1] at p1
          obtain ⟨Q9, hQ9⟩ : ∃ Q9, Q9 = bs (quoteL x.text.data.toList) := ⟨_, rfl⟩
          rw [← hQ9] at cQ
          replace hQ9 := Lib.hid hQ9
          have hnx : nL x = quoteL x.text.data.toList := by rw [nL_eq, if_pos ht0]
          rw [hnx] at hLc hlc
          replace ht1 := Lib.hid ht1
          replace ht0 := Lib.hid ht0
          clear hnx ha0 hk0
          go_wp2_with (go_at_call 87; refine cQ.out.mono ?_)
          first | rintro e w5 rfl hb5 | rintro e w5 ⟨rfl, hb5⟩
          have cW := Lib.hid (wstr_any b v4 (l0 ++ joinL ((L.map nL).take k) ++ [32]) (quoteL x.text.data.toList) Q9 w5 hQ9.out (hBc.out.later hb5) hlc.out)
          have hT5 := Lib.hid (hTc.out.trans (Turn.below hb5))
          clear hb5
          clear p0 p1 p2 p3 p4
          go_wp2_with (go_at_call 86; refine cW.out.mono ?_)
          rintro e w6 ⟨rfl, v6, hB6, hT6⟩
          rw [hLc.out] at hB6
          have hT6' := Lib.hid (hTS.out.trans (hT5.out.trans hT6))
          replace hB6 := Lib.hid hB6
          clear hT6
          go_wp2_with fail
          go_roundw
          case rel => exact ⟨k + 1, v6, hlt9.out, by go_num, hB6.out, hT6'.out⟩
          case measure => simp [intOf]; have := hlt9.out; omega
        · clear hx0
          have cQ := Lib.hid (showQuoted_any x.tag w4 hEc.out htl)
          have e1 := ne_empty ht0
          have e2 := not_isEmpty ht0
          obtain ⟨Q9, hQ9⟩ : ∃ Q9, Q9 = bs (quoteL x.tag.data.toList) := ⟨_, rfl⟩
          rw [← hQ9] at cQ
          have hq9 : Q9.size ≤ 8194 := by rw [hQ9, bs_size]; have := quote_len x.tag; omega
          replace hQ9 := Lib.hid hQ9
          have hnx : nL x = 40 :: (quoteL x.tag.data.toList ++ 32 :: 123 :: (joinL (x.attrs.map fL) ++ 125 :: 32 :: 91 :: (joinL (x.kids.map nL) ++ [93, 41]))) := by rw [nL_eq, if_neg (by omega)]
          have hnl : (nL x).length = (quoteL x.tag.data.toList).length + (joinL (x.attrs.map fL)).length + (joinL (x.kids.map nL)).length + 8 := by rw [hnx]; simp; omega
          have hl9 : (l0 ++ joinL ((L.map nL).take k) ++ [32]).length + ((quoteL x.tag.data.toList).length + (joinL (x.attrs.map fL)).length + (joinL (x.kids.map nL)).length + 8) ≤ 1073741824 := by rw [← hnl]; exact hlc.out
          rw [hnx] at hLc
          obtain ⟨l2, hl2⟩ : ∃ l2, l2 = l0 ++ joinL ((L.map nL).take k) ++ [32] ++ 40 :: (quoteL x.tag.data.toList ++ [32, 123]) := ⟨_, rfl⟩
          have hl2n : l2.length = (l0 ++ joinL ((L.map nL).take k) ++ [32]).length + (quoteL x.tag.data.toList).length + 3 := by rw [hl2]; simp; omega
          have hLd : Hid ((l2 ++ joinL (x.attrs.map fL) ++ [125, 32, 91] ++ joinL (x.kids.map nL)) ++ [93, 41] = l0 ++ joinL ((L.map nL).take (k + 1))) := by show _ = _; rw [← hLc.out, hl2]; simp
          have hl8 : Hid (l2.length + (joinL (x.attrs.map fL)).length + (joinL (x.kids.map nL)).length + 5 ≤ 1073741824) := by show _ ≤ _; omega
          clear hnl hnx hl2n hl9
          replace ht0 := Lib.hid ht0
          go_wp2_with (go_at_call 87; refine cQ.out.mono ?_)
          first | rintro e w5 rfl hb5 | rintro e w5 ⟨rfl, hb5⟩
          have cW := wstr_any b v4 (l0 ++ joinL ((L.map nL).take k) ++ [32]) (40 :: (quoteL x.tag.data.toList ++ [32, 123])) (ByteArray.mk #[40] ++ Q9 ++ ByteArray.mk #[32, 123]) w5 (by rw [hQ9.out]; show bs [40] ++ bs _ ++ bs [32, 123] = _; rw [bs_append, bs_append]; simp) (hBc.out.later hb5) (by have := hl8.out; rw [hl2] at this; simp only [List.length_cons, List.length_append, List.length_nil] at this ⊢; omega)
          rw [← hl2] at cW
          have hT5 : Turn S w5 b v1 v4 := hTc.out.trans (Turn.below hb5)
          replace cW := Lib.hid cW
          replace hl2 := Lib.hid hl2
          have hzw5 := hb5.size
          clear hb5
          clear p0 p1 p2 p3 p4
          replace hT5 := Lib.hid hT5
          go_wp2_with (go_at_call 86; refine cW.out.mono ?_)
          rintro e w6 ⟨rfl, v6, hB6, hT6⟩
          have hT6' : Turn S w6 b v1 v6 := hT5.out.trans hT6
          have p0 := (hT6'.cell (a := ⟨wq.heap.size, 0, none⟩) (by show wq.heap.size < _; omega) (by show wq.heap.size ≠ _; omega) hvne.out).trans x0.out
          have p1 := (hT6'.cell (a := ⟨wq.heap.size, 1, none⟩) (by show wq.heap.size < _; omega) (by show wq.heap.size ≠ _; omega) hvne.out).trans x1.out
          have p2 := (hT6'.cell (a := ⟨wq.heap.size, 2, none⟩) (by show wq.heap.size < _; omega) (by show wq.heap.size ≠ _; omega) hvne.out).trans x2.out
          have p3 := (hT6'.cell (a := ⟨wq.heap.size, 3, none⟩) (by show wq.heap.size < _; omega) (by show wq.heap.size ≠ _; omega) hvne.out).trans x3.out
          have p4 := (hT6'.cell (a := ⟨wq.heap.size, 4, none⟩) (by show wq.heap.size < _; omega) (by show wq.heap.size ≠ _; omega) hvne.out).trans x4.out
          clear hT6
          replace hT6' := Lib.hid hT6'
          replace hB6 := Lib.hid hB6
          go_wp2_with fail
          go_loopw [37] (fun i wy => ∃ (m : Nat) (vy : Value), m ≤ an ∧ i = .int .i64 (m : Nat) ∧ Bat 68 b vy (Lib.byteCells (l2 ++ joinL ((x.attrs.map fL).take m))) wy ∧ Turn S wy b v1 vy) (fun i _ => an - (intOf i).toNat)
          case atStart => exact ⟨0, v6, Nat.zero_le _, rfl, by rw [List.take_zero]; show Bat _ _ _ (Lib.byteCells (l2 ++ [])) _; rw [List.append_nil]; exact hB6.out, hT6'.out⟩
          case round =>
            clear p0 p1 p2 p3 p4
            obtain ⟨m, vy, hm9, rfl, hBy, hTy⟩ := hrel
            obtain ⟨wy, hwy⟩ : ∃ wy : World, wy = wr := ⟨_, rfl⟩
            subst hwy
            have hlowy : Below B S wy := hTy.low hBb hhigh1.out hBS9
            have hhighy : Hid (∀ q, vy.ownBlock = some q → B ≤ q) := hTy.high hhigh1.out hBS9
            have hzy := hTy.size
            have hby := hBy.lt
            have hvlt := Lib.hid hBy.vlt
            have hjl := join_take_le (x.attrs.map fL) m
            by_cases hmt : m < an
            · have hmt9 : Hid (m + 1 ≤ an) := hmt
              obtain ⟨b2, o2, f, q, rfl, hb2, hg2, hc2, hf2⟩ := FLs.elem (hAS.out.kept hlowy) m hmt
              have hmem := List.mem_of_getElem? hg2
              have hkd : Hid (f.value.kind = 1 ∨ f.value.kind = 2 ∨ f.value.kind = 3) := shown_of hab f hmem
              have hfk := Lib.hid hf2.val.k2
              have hap := attr_parts hab f hmem
              have hpp := hf2.val.plain
              have hpl : Hid (plainP f.value.kind f.value.n f.value.s q.ln q.fn f.value.elem f.value.key f.value.hk = true) := by show _ = true; rw [hpp.1, hpp.2.1]; exact hap.2.2
              have hfn : f.name.size ≤ 4096 := hap.1
              have hfs : f.value.s.size ≤ 4096 := hap.2.1
              have hstepm := joined_mem hg2
              have hlem := join_take_le (x.attrs.map fL) (m + 1)
              have hql := quote_len f.name
              have hvl := vP_len f.value.kind f.value.n f.value.s hf2.val.k2
              obtain ⟨Q8, hQ8⟩ : ∃ Q8, Q8 = bs (quoteL f.name.data.toList) := ⟨_, rfl⟩
              obtain ⟨V8, hV8⟩ : ∃ V8, V8 = bs (vP f.value.kind f.value.n f.value.s) := ⟨_, rfl⟩
              have hq8 : Q8.size ≤ 8194 := by rw [hQ8, bs_size]; omega
              have hv8 : V8.size ≤ 8216 := by rw [hV8, bs_size]; omega
              have hFy : FLs wy B f.value.F q.fa q.fn := hf2.val.F
              have hEy : Env wy := hES.out.below hlowy hEB.out
              replace hQ8 := Lib.hid hQ8
              replace hV8 := Lib.hid hV8
              clear hap hpp hmem hql hvl hf2
              have y0 : wy.cell? ⟨b2, o2 + m * 9, none⟩ = some (.string f.name) := hc2 0 (by omega)
              have y1 : wy.cell? ⟨b2, o2 + m * 9 + 1, none⟩ = some (.int .u8 f.value.kind) := by rw [Nat.add_assoc]; exact hc2 1 (by omega)
              have y2 : wy.cell? ⟨b2, o2 + m * 9 + 2, none⟩ = some (.int .i64 f.value.n) := by rw [Nat.add_assoc]; exact hc2 2 (by omega)
              have y3 : wy.cell? ⟨b2, o2 + m * 9 + 3, none⟩ = some (.string f.value.s) := by rw [Nat.add_assoc]; exact hc2 3 (by omega)
              have y4 : wy.cell? ⟨b2, o2 + m * 9 + 4, none⟩ = some (.slice q.la q.ln q.lc) := by rw [Nat.add_assoc]; exact hc2 4 (by omega)
              have y5 : wy.cell? ⟨b2, o2 + m * 9 + 5, none⟩ = some (.slice q.fa q.fn q.fc) := by rw [Nat.add_assoc]; exact hc2 5 (by omega)
              have y6 : wy.cell? ⟨b2, o2 + m * 9 + 6, none⟩ = some (.int .u8 f.value.elem) := by rw [Nat.add_assoc]; exact hc2 6 (by omega)
              have y7 : wy.cell? ⟨b2, o2 + m * 9 + 7, none⟩ = some (.string f.value.key) := by rw [Nat.add_assoc]; exact hc2 7 (by omega)
              have y8 : wy.cell? ⟨b2, o2 + m * 9 + 8, none⟩ = some (.bool f.value.hk) := by rw [Nat.add_assoc]; exact hc2 8 (by omega)
              obtain ⟨S9, hS9⟩ : ∃ S9, S9 = wy.alloc (.cells #[.string f.name, .int .u8 f.value.kind, .int .i64 f.value.n, .string f.value.s, .slice q.la q.ln q.lc, .slice q.fa q.fn q.fc, .int .u8 f.value.elem, .string f.value.key, .bool f.value.hk] 61) := ⟨_, rfl⟩
              have hbS9 : Below wy.heap.size wy S9 := by rw [hS9]; exact (Below.refl _ _).alloc (Nat.le_refl _) _
              have hrS9 : S9.heap[wy.heap.size]? = some (.cells #[.string f.name, .int .u8 f.value.kind, .int .i64 f.value.n, .string f.value.s, .slice q.la q.ln q.lc, .slice q.fa q.fn q.fc, .int .u8 f.value.elem, .string f.value.key, .bool f.value.hk] 61 (0, 0)) := by rw [hS9]; exact heap_alloc_new wy _
              have hzS9 : S9.heap.size = wy.heap.size + 1 := by rw [hS9]; simp
              have t0 : S9.cell? ⟨wy.heap.size, 0, none⟩ = some (.string f.name) := by simp [World.cell?, hrS9]
              have t1 : S9.cell? ⟨wy.heap.size, 1, none⟩ = some (.int .u8 f.value.kind) := by simp [World.cell?, hrS9]
              have t2 : S9.cell? ⟨wy.heap.size, 2, none⟩ = some (.int .i64 f.value.n) := by simp [World.cell?, hrS9]
              have t3 : S9.cell? ⟨wy.heap.size, 3, none⟩ = some (.string f.value.s) := by simp [World.cell?, hrS9]
              have t4 : S9.cell? ⟨wy.heap.size, 4, none⟩ = some (.slice q.la q.ln q.lc) := by simp [World.cell?, hrS9]
              have t5 : S9.cell? ⟨wy.heap.size, 5, none⟩ = some (.slice q.fa q.fn q.fc) := by simp [World.cell?, hrS9]
              have t6 : S9.cell? ⟨wy.heap.size, 6, none⟩ = some (.int .u8 f.value.elem) := by simp [World.cell?, hrS9]
              have t7 : S9.cell? ⟨wy.heap.size, 7, none⟩ = some (.string f.value.key) := by simp [World.cell?, hrS9]
              have t8 : S9.cell? ⟨wy.heap.size, 8, none⟩ = some (.bool f.value.hk) := by simp [World.cell?, hrS9]
              have hWS9 : Hid (S9 = _) := hS9
              replace hrS9 := Lib.hid hrS9
              clear hS9
              have hB9 := hBy.later hbS9
              have hT9s : Turn S S9 b v1 vy := hTy.trans (Turn.below hbS9)
              have hE9 : Env S9 := hEy.kept hbS9
              have hF9 : FLs S9 B f.value.F q.fa q.fn := hFy.kept (hbS9.mono (by omega))
              replace hBy := Lib.hid hBy
              replace hTy := Lib.hid hTy
              replace hlowy := Lib.hid hlowy
              replace hbS9 := Lib.hid hbS9
              replace hg2 := Lib.hid hg2
              clear hc2
              rcases Nat.eq_zero_or_pos m with rfl | hm0
              · rw [if_pos rfl] at hstepm
                have hLm : Hid (l2 ++ joinL ((x.attrs.map fL).take 0) ++ fL f = l2 ++ joinL ((x.attrs.map fL).take (0 + 1))) := by show _ = _; rw [hstepm, List.append_assoc]
                have hlm : Hid ((l2 ++ joinL ((x.attrs.map fL).take 0)).length + (fL f).length ≤ 1073741824) := by
                  show _ ≤ _
                  rw [← List.length_append, hLm.out, List.length_append]
                  have := hl8.out; omega
                have hBm := Lib.hid hB9
                have hTm := Lib.hid hT9s
                have hEm := Lib.hid hE9
                have hFm := Lib.hid hF9
                clear hstepm hlem hB9 hT9s hE9 hF9 hjl
                simp only [Nat.zero_mul, Nat.add_zero] at y0 y1 y2 y3 y4 y5 y6 y7 y8
                go_wp2_with (first | (rw [← hWS9.out]))
                clear y0 y1 y2 y3 y4 y5 y6 y7 y8
                have t0' : ∀ d : LowW S9, d.w.cell? ⟨wy.heap.size, 0, none⟩ = some (.string f.name) := fun d => (d.cell (by show wy.heap.size < _; omega)).trans t0
                have t1' : ∀ d : LowW S9, d.w.cell? ⟨wy.heap.size, 1, none⟩ = some (.int .u8 f.value.kind) := fun d => (d.cell (by show wy.heap.size < _; omega)).trans t1
                have t2' : ∀ d : LowW S9, d.w.cell? ⟨wy.heap.size, 2, none⟩ = some (.int .i64 f.value.n) := fun d => (d.cell (by show wy.heap.size < _; omega)).trans t2
                have t3' : ∀ d : LowW S9, d.w.cell? ⟨wy.heap.size, 3, none⟩ = some (.string f.value.s) := fun d => (d.cell (by show wy.heap.size < _; omega)).trans t3
                have t4' : ∀ d : LowW S9, d.w.cell? ⟨wy.heap.size, 4, none⟩ = some (.slice q.la q.ln q.lc) := fun d => (d.cell (by show wy.heap.size < _; omega)).trans t4
                have t5' : ∀ d : LowW S9, d.w.cell? ⟨wy.heap.size, 5, none⟩ = some (.slice q.fa q.fn q.fc) := fun d => (d.cell (by show wy.heap.size < _; omega)).trans t5
                have t6' : ∀ d : LowW S9, d.w.cell? ⟨wy.heap.size, 6, none⟩ = some (.int .u8 f.value.elem) := fun d => (d.cell (by show wy.heap.size < _; omega)).trans t6
                have t7' : ∀ d : LowW S9, d.w.cell? ⟨wy.heap.size, 7, none⟩ = some (.string f.value.key) := fun d => (d.cell (by show wy.heap.size < _; omega)).trans t7
                have t8' : ∀ d : LowW S9, d.w.cell? ⟨wy.heap.size, 8, none⟩ = some (.bool f.value.hk) := fun d => (d.cell (by show wy.heap.size < _; omega)).trans t8
                clear t0 t1 t2 t3 t4 t5 t6 t7 t8
                have cQ : ∀ d : LowW S9, Calls Tryz.prog 87 #[.string f.name] d.w fun e w' => e = .returned (.string Q8) ∧ ∃ d' : LowW S9, w' = d'.w := fun d => by
                  refine (showQuoted_any f.name d.w (hEm.out.kept d.low) hfn).mono ?_
                  rintro e w' ⟨rfl, h⟩
                  exact ⟨by rw [hQ8.out], d.more h⟩
                have cT : ∀ d : LowW S9, Calls Tryz.prog 88 #[.agg #[.int .u8 f.value.kind, .int .i64 f.value.n, .string f.value.s, .slice q.la q.ln q.lc, .slice q.fa q.fn q.fc, .int .u8 f.value.elem, .string f.value.key, .bool f.value.hk]] d.w fun e w' => e = .returned (.string V8) ∧ ∃ d' : LowW S9, w' = d'.w := fun d => by
                  refine (valText_any f.value.kind f.value.n f.value.s q.la q.fa q.ln q.lc q.fn q.fc f.value.elem f.value.key f.value.hk f.value.F d.w (hEm.out.kept d.low) ((hFm.out.kept (d.low.mono (by omega))).mono (by have := d.low.size; omega)) hkd.out hfk.out hpl.out hfs).mono ?_
                  rintro e w' ⟨rfl, h⟩
                  exact ⟨by rw [hV8.out], d.more h⟩
                have cW : ∀ d : LowW S9, Calls Tryz.prog 86 #[.pointer (some ⟨b, 0, none⟩), .string (Q8 ++ ByteArray.mk #[32] ++ V8)] d.w fun e w' => e = .returned (.tuple #[.int .i64 (Q8 ++ ByteArray.mk #[32] ++ V8).size, .nilIface]) ∧ Wrote 68 b vy (Lib.byteCells (l2 ++ joinL ((x.attrs.map fL).take 0) ++ fL f)) d.w w' := fun d =>
                  wstr_any b vy (l2 ++ joinL ((x.attrs.map fL).take 0)) (fL f) (Q8 ++ ByteArray.mk #[32] ++ V8) d.w (by rw [hQ8.out, hV8.out]; show bs _ ++ bs [32] ++ bs _ = _; rw [bs_append, bs_append]; simp [fL]) (hBm.out.later d.low) hlm.out
                replace cQ := Lib.hid cQ
                replace cT := Lib.hid cT
                replace cW := Lib.hid cW
                refine wp_region_low_last 9 rfl rfl (by kernel_rfl) (by kernel_rfl) (by kernel_rfl) ?_
                simp only [List.take_succ_cons, List.take_zero]
                repeat (go_big_quiet_step (first | (go_at_call 87; exact cQ.out _) | (go_at_call 88; exact cT.out _)))
                refine wpQuiet_nil ?_
                rintro _ ⟨d, rfl⟩ K hK
                go_simp
                go_at_call 86
                refine (cW.out d).mono ?_
                rintro e w9 ⟨rfl, v9, hB9, hT9⟩
                refine hK.out _ _ ?_
                clear hK K
                rw [hLm.out] at hB9
                have hT9' : Hid (Turn S w9 b v1 v9) := hTm.out.trans ((Turn.below d.low).trans hT9)
                replace hB9 := Lib.hid hB9
                clear hT9
                go_wp2_with fail
                go_roundw
                case rel => exact ⟨0 + 1, v9, hmt9.out, by go_num, hB9.out, hT9'.out⟩
                case measure => simp [intOf]; have := hmt9.out; omega
              · rw [if_neg (by omega)] at hstepm
                have hLm : Hid (l2 ++ joinL ((x.attrs.map fL).take m) ++ [32] ++ fL f = l2 ++ joinL ((x.attrs.map fL).take (m + 1))) := by show _ = _; rw [hstepm]; simp
                have hlm : Hid ((l2 ++ joinL ((x.attrs.map fL).take m) ++ [32]).length + (fL f).length ≤ 1073741824) := by
                  show _ ≤ _
                  rw [← List.length_append, hLm.out, List.length_append]
                  have := hl8.out; omega
                have cB := Lib.hid (wbyte_any b vy (l2 ++ joinL ((x.attrs.map fL).take m)) S9 hB9 (by rw [List.length_append]; have := hl8.out; omega))
                replace hB9 := Lib.hid hB9
                replace hT9s := Lib.hid hT9s
                replace hE9 := Lib.hid hE9
                replace hF9 := Lib.hid hF9
                clear hstepm hlem hjl
                go_wp2_with (first | (rw [← hWS9.out]) | (go_at_call 85; refine cB.out.mono ?_))
                rintro e w8 ⟨rfl, v8, hB8, hT8⟩
                clear y0 y1 y2 y3 y4 y5 y6 y7 y8
                have hlow8 : Below B S9 w8 := hT8.low hBb hhighy.out (by omega)
                have hBm := Lib.hid hB8
                have hTm := Lib.hid (hT9s.out.trans hT8)
                have hEm := Lib.hid (hE9.out.below hlow8 hEB.out)
                have hFm := Lib.hid (hF9.out.kept hlow8)
                have hz8 := hT8.size
                replace t0 := (hT8.cell (a := ⟨wy.heap.size, 0, none⟩) (by show wy.heap.size < _; omega) (by show wy.heap.size ≠ _; omega) (fun q hq => by have := hvlt.out q hq; show q ≠ wy.heap.size; omega)).trans t0
                replace t1 := (hT8.cell (a := ⟨wy.heap.size, 1, none⟩) (by show wy.heap.size < _; omega) (by show wy.heap.size ≠ _; omega) (fun q hq => by have := hvlt.out q hq; show q ≠ wy.heap.size; omega)).trans t1
                replace t2 := (hT8.cell (a := ⟨wy.heap.size, 2, none⟩) (by show wy.heap.size < _; omega) (by show wy.heap.size ≠ _; omega) (fun q hq => by have := hvlt.out q hq; show q ≠ wy.heap.size; omega)).trans t2
                replace t3 := (hT8.cell (a := ⟨wy.heap.size, 3, none⟩) (by show wy.heap.size < _; omega) (by show wy.heap.size ≠ _; omega) (fun q hq => by have := hvlt.out q hq; show q ≠ wy.heap.size; omega)).trans t3
                replace t4 := (hT8.cell (a := ⟨wy.heap.size, 4, none⟩) (by show wy.heap.size < _; omega) (by show wy.heap.size ≠ _; omega) (fun q hq => by have := hvlt.out q hq; show q ≠ wy.heap.size; omega)).trans t4
                replace t5 := (hT8.cell (a := ⟨wy.heap.size, 5, none⟩) (by show wy.heap.size < _; omega) (by show wy.heap.size ≠ _; omega) (fun q hq => by have := hvlt.out q hq; show q ≠ wy.heap.size; omega)).trans t5
                replace t6 := (hT8.cell (a := ⟨wy.heap.size, 6, none⟩) (by show wy.heap.size < _; omega) (by show wy.heap.size ≠ _; omega) (fun q hq => by have := hvlt.out q hq; show q ≠ wy.heap.size; omega)).trans t6
                replace t7 := (hT8.cell (a := ⟨wy.heap.size, 7, none⟩) (by show wy.heap.size < _; omega) (by show wy.heap.size ≠ _; omega) (fun q hq => by have := hvlt.out q hq; show q ≠ wy.heap.size; omega)).trans t7
                replace t8 := (hT8.cell (a := ⟨wy.heap.size, 8, none⟩) (by show wy.heap.size < _; omega) (by show wy.heap.size ≠ _; omega) (fun q hq => by have := hvlt.out q hq; show q ≠ wy.heap.size; omega)).trans t8
                clear hB8 hT8 hB9 hT9s hE9 hF9 hlow8
                have t0' : ∀ d : LowW w8, d.w.cell? ⟨wy.heap.size, 0, none⟩ = some (.string f.name) := fun d => (d.cell (by show wy.heap.size < _; omega)).trans t0
                have t1' : ∀ d : LowW w8, d.w.cell? ⟨wy.heap.size, 1, none⟩ = some (.int .u8 f.value.kind) := fun d => (d.cell (by show wy.heap.size < _; omega)).trans t1
                have t2' : ∀ d : LowW w8, d.w.cell? ⟨wy.heap.size, 2, none⟩ = some (.int .i64 f.value.n) := fun d => (d.cell (by show wy.heap.size < _; omega)).trans t2
                have t3' : ∀ d : LowW w8, d.w.cell? ⟨wy.heap.size, 3, none⟩ = some (.string f.value.s) := fun d => (d.cell (by show wy.heap.size < _; omega)).trans t3
                have t4' : ∀ d : LowW w8, d.w.cell? ⟨wy.heap.size, 4, none⟩ = some (.slice q.la q.ln q.lc) := fun d => (d.cell (by show wy.heap.size < _; omega)).trans t4
                have t5' : ∀ d : LowW w8, d.w.cell? ⟨wy.heap.size, 5, none⟩ = some (.slice q.fa q.fn q.fc) := fun d => (d.cell (by show wy.heap.size < _; omega)).trans t5
                have t6' : ∀ d : LowW w8, d.w.cell? ⟨wy.heap.size, 6, none⟩ = some (.int .u8 f.value.elem) := fun d => (d.cell (by show wy.heap.size < _; omega)).trans t6
                have t7' : ∀ d : LowW w8, d.w.cell? ⟨wy.heap.size, 7, none⟩ = some (.string f.value.key) := fun d => (d.cell (by show wy.heap.size < _; omega)).trans t7
                have t8' : ∀ d : LowW w8, d.w.cell? ⟨wy.heap.size, 8, none⟩ = some (.bool f.value.hk) := fun d => (d.cell (by show wy.heap.size < _; omega)).trans t8
                clear t0 t1 t2 t3 t4 t5 t6 t7 t8
                have cQ : ∀ d : LowW w8, Calls Tryz.prog 87 #[.string f.name] d.w fun e w' => e = .returned (.string Q8) ∧ ∃ d' : LowW w8, w' = d'.w := fun d => by
                  refine (showQuoted_any f.name d.w (hEm.out.kept d.low) hfn).mono ?_
                  rintro e w' ⟨rfl, h⟩
                  exact ⟨by rw [hQ8.out], d.more h⟩
                have cT : ∀ d : LowW w8, Calls Tryz.prog 88 #[.agg #[.int .u8 f.value.kind, .int .i64 f.value.n, .string f.value.s, .slice q.la q.ln q.lc, .slice q.fa q.fn q.fc, .int .u8 f.value.elem, .string f.value.key, .bool f.value.hk]] d.w fun e w' => e = .returned (.string V8) ∧ ∃ d' : LowW w8, w' = d'.w := fun d => by
                  refine (valText_any f.value.kind f.value.n f.value.s q.la q.fa q.ln q.lc q.fn q.fc f.value.elem f.value.key f.value.hk f.value.F d.w (hEm.out.kept d.low) ((hFm.out.kept (d.low.mono (by omega))).mono (by have := d.low.size; omega)) hkd.out hfk.out hpl.out hfs).mono ?_
                  rintro e w' ⟨rfl, h⟩
                  exact ⟨by rw [hV8.out], d.more h⟩
                have cW : ∀ d : LowW w8, Calls Tryz.prog 86 #[.pointer (some ⟨b, 0, none⟩), .string (Q8 ++ ByteArray.mk #[32] ++ V8)] d.w fun e w' => e = .returned (.tuple #[.int .i64 (Q8 ++ ByteArray.mk #[32] ++ V8).size, .nilIface]) ∧ Wrote 68 b v8 (Lib.byteCells (l2 ++ joinL ((x.attrs.map fL).take m) ++ [32] ++ fL f)) d.w w' := fun d =>
                  wstr_any b v8 (l2 ++ joinL ((x.attrs.map fL).take m) ++ [32]) (fL f) (Q8 ++ ByteArray.mk #[32] ++ V8) d.w (by rw [hQ8.out, hV8.out]; show bs _ ++ bs [32] ++ bs _ = _; rw [bs_append, bs_append]; simp [fL]) (hBm.out.later d.low) hlm.out
                replace cQ := Lib.hid cQ
                replace cT := Lib.hid cT
                replace cW := Lib.hid cW
                go_wp2_with fail
                refine wp_region_low_last 9 rfl rfl (by kernel_rfl) (by kernel_rfl) (by kernel_rfl) ?_
                simp only [List.take_succ_cons, List.take_zero]
                repeat (go_big_quiet_step (first | (go_at_call 87; exact cQ.out _) | (go_at_call 88; exact cT.out _)))
                refine wpQuiet_nil ?_
                rintro _ ⟨d, rfl⟩ K hK
                go_simp
                go_at_call 86
                refine (cW.out d).mono ?_
                rintro e w9 ⟨rfl, v9, hB9, hT9⟩
                refine hK.out _ _ ?_
                clear hK K
                rw [hLm.out] at hB9
                have hT9' : Hid (Turn S w9 b v1 v9) := hTm.out.trans ((Turn.below d.low).trans hT9)
                replace hB9 := Lib.hid hB9
                clear hT9
                go_wp2_with fail
                go_roundw
                case rel => exact ⟨m + 1, v9, hmt9.out, by go_num, hB9.out, hT9'.out⟩
                case measure => simp [intOf]; have := hmt9.out; omega
            · have hmn : an = m := by omega
              subst hmn
              have htk : (x.attrs.map fL).take an = x.attrs.map fL := List.take_of_length_le (by rw [List.length_map]; have := hanl.out; omega)
              rw [htk] at hBy
              clear htk
              have p0 := (hTy.cell (a := ⟨wq.heap.size, 0, none⟩) (by show wq.heap.size < _; omega) (by show wq.heap.size ≠ _; omega) hvne.out).trans x0.out
              have p1 := (hTy.cell (a := ⟨wq.heap.size, 1, none⟩) (by show wq.heap.size < _; omega) (by show wq.heap.size ≠ _; omega) hvne.out).trans x1.out
              have p2 := (hTy.cell (a := ⟨wq.heap.size, 2, none⟩) (by show wq.heap.size < _; omega) (by show wq.heap.size ≠ _; omega) hvne.out).trans x2.out
              have p3 := (hTy.cell (a := ⟨wq.heap.size, 3, none⟩) (by show wq.heap.size < _; omega) (by show wq.heap.size ≠ _; omega) hvne.out).trans x3.out
              have p4 := (hTy.cell (a := ⟨wq.heap.size, 4, none⟩) (by show wq.heap.size < _; omega) (by show wq.heap.size ≠ _; omega) hvne.out).trans x4.out
              have cW2 := Lib.hid (wstr_any b vy (l2 ++ joinL (x.attrs.map fL)) [125, 32, 91] ⟨#[125, 32, 91]⟩ wy rfl hBy (by simp only [List.length_append, List.length_cons, List.length_nil]; have := hl8.out; omega))
              replace hBy := Lib.hid hBy
              replace hTy := Lib.hid hTy
              replace hlowy := Lib.hid hlowy
              go_wp2_with (go_at_call 86; refine cW2.out.mono ?_)
              rintro e w7 ⟨rfl, v7, hB7, hT7⟩
              clear p0 p1 p2 p3 p4
              have hT7' : Turn S w7 b v1 v7 := hTy.out.trans hT7
              have p0 := (hT7'.cell (a := ⟨wq.heap.size, 0, none⟩) (by show wq.heap.size < _; omega) (by show wq.heap.size ≠ _; omega) hvne.out).trans x0.out
              have p1 := (hT7'.cell (a := ⟨wq.heap.size, 1, none⟩) (by show wq.heap.size < _; omega) (by show wq.heap.size ≠ _; omega) hvne.out).trans x1.out
              have p2 := (hT7'.cell (a := ⟨wq.heap.size, 2, none⟩) (by show wq.heap.size < _; omega) (by show wq.heap.size ≠ _; omega) hvne.out).trans x2.out
              have p3 := (hT7'.cell (a := ⟨wq.heap.size, 3, none⟩) (by show wq.heap.size < _; omega) (by show wq.heap.size ≠ _; omega) hvne.out).trans x3.out
              have p4 := (hT7'.cell (a := ⟨wq.heap.size, 4, none⟩) (by show wq.heap.size < _; omega) (by show wq.heap.size ≠ _; omega) hvne.out).trans x4.out
              have hlow7 : Below B S w7 := hT7'.low hBb hhigh1.out hBS9
              have cP := hKx.out hmk b B v7 (l2 ++ joinL (x.attrs.map fL) ++ [125, 32, 91]) ka kn kc w7 hB7 (hES.out.below hlow7 hEB.out) hEB.out hBb (hT7'.high hhigh1.out hBS9) (hKS.out.kept hlow7) (by simp only [List.length_append, List.length_cons, List.length_nil]; have := hl8.out; omega)
              replace cP := Lib.hid cP
              replace hT7' := Lib.hid hT7'
              clear hB7 hT7 hlow7
              go_wp2_with (go_at_call 21; refine cP.out.mono ?_)
              rintro e w8 ⟨rfl, v8, hB8, hT8⟩
              clear p0 p1 p2 p3 p4
              have cW3 := Lib.hid (wstr_any b v8 (l2 ++ joinL (x.attrs.map fL) ++ [125, 32, 91] ++ joinL (x.kids.map nL)) [93, 41] ⟨#[93, 41]⟩ w8 rfl hB8 (by simp only [List.length_append, List.length_cons, List.length_nil]; have := hl8.out; omega))
              have hT8' := Lib.hid (hT7'.out.trans hT8)
              clear hB8 hT8
              go_wp2_with (go_at_call 86; refine cW3.out.mono ?_)
              rintro e w9 ⟨rfl, v9, hB9, hT9⟩
              rw [hLd.out] at hB9
              have hT9' := Lib.hid (hTS.out.trans (hT8'.out.trans hT9))
              replace hB9 := Lib.hid hB9
              clear hT9
              go_wp2_with fail
              go_roundw
              case rel => exact ⟨k + 1, v9, hlt9.out, by go_num, hB9.out, hT9'.out⟩
              case measure => simp [intOf]; have := hlt9.out; omega
    · have hkn : n = k := by omega
      subst hkn
      have htk : (L.map nL).take n = L.map nL := List.take_of_length_le (by rw [List.length_map]; have := hl.out; omega)
      rw [htk] at hB1
      have hW : Hid (Wrote 68 b v (Lib.byteCells (l0 ++ joinL (L.map nL))) w wq) := ⟨v1, hB1, hT1⟩
      clear hB1 hT1 htk
      replace hlow1 := Lib.hid hlow1
      go_wp2_with fail
      exact bodyPost_end (v := .tuple #[]) (results_none (by kernel_rfl) _ _ _) rfl ⟨rfl, hW.out⟩
theorem put_any (L : List Nd) : PutR L := by
  have key : ∀ v : Nd, PutR v.kids := fun v => Nd.ind (P := fun v => PutR v.kids) (fun i t x a K hK => put_of K hK) v
  exact put_of L fun v _ => key v
end Go.Proofs.YtehcbicngbibgaaGreatDoor
