/- Every program is written as exactly its documented text, or refused: PrintTexts returns true where what it reads is of bulk at most 1048576. Under what its row lists: the library's tables and sentinels lie as the program's text lays them (the card ties them). -/
import Derived.Test.YtlppklbmdedipaaGreatDoorW02
import Derived.Test.YtlppklbmdedipaaGreatDoorRows
import Derived.Test.YtlppklbmdedipaaGreatDoorW03
import Derived.ProofKit
import Derived.Deep.Slices
import Derived.OpenShut
import Derived.Test.YtlppklbmdedipaaGreatDoorW28
import Derived.Test.YtlppklbmdedipaaGreatDoorTie
import Derived.Test.YtlppklbmdedipaaGreatDoorCards
import Derived.JoinedCond
import Derived.LaidMore
import Derived.Stop.Joined
import Derived.Stop.LaidErr
import Derived.Lib.LaidTab
import Derived.MakeChecks
import Derived.Deep.DeepHandedRow
import Derived.SevenTiedAt
namespace Go.Proofs.YtlppklbmdedipaaGreatDoor
open Go Go.RowKit Go.ChangeShapes Go.WideShapes Go.ChangeAt Go.Maps
set_option maxHeartbeats 8000000
set_option maxRecDepth 100000

section
variable {H : Type} {enc : TypeId × Value → H} {W : World} {base : Nat} {sp : Nat → Bool} {held : Bool}
theorem one_cell_int {t : TypeId} {k : IntKind} (ht : Tryz.prog.underlying t = some (.int k)) {fuel : Nat} {c : Value} {x : DataW H × List MemPlace} (h : DataW.trod enc Tryz.prog W base sp held fuel t [c] = some x) : ∃ n, c = .int k n ∧ (Lit.int k n).wf = true := by
 obtain ⟨n, hc, _, hw⟩ := DataW.trod_int ht h
 simp at hc; exact ⟨n, hc, hw⟩
theorem one_cell_string {fuel : Nat} {c : Value} {x : DataW H × List MemPlace} (h : DataW.trod enc Tryz.prog W base sp held fuel 9 [c] = some x) : ∃ s : ByteArray, c = .string s ∧ Rows.uptoBulk x.1 = s.size + 1 := by
 obtain ⟨s, hc, hx, _⟩ := DataW.trod_string Tryz.underlying9 h
 simp at hc
 refine ⟨s, hc, ?_⟩
 rw [hx, size_list]
 rfl
theorem at_some {α : Type} {xs : List α} {n i : Nat} (h : xs.length = n) (hi : i < n) : ∃ y, xs[i]? = some y := ⟨xs[i]'(by omega), List.getElem?_eq_getElem (by omega)⟩
theorem bulk_pos (d : DataW H) : 1 ≤ Rows.uptoBulk d := by
 cases d with
 | lit l => cases l <;> simp [Rows.uptoBulk]
 | _ => simp [Rows.uptoBulk]
theorem bulkAll_append (l r : List (DataW H)) : Rows.uptoBulkAll (l ++ r) = Rows.uptoBulkAll l + Rows.uptoBulkAll r := by
 induction l with
 | nil => simp [Rows.uptoBulkAll]
 | cons d l ih => simp only [List.cons_append, Rows.uptoBulkAll, ih]; omega
theorem bulkAll_mem {d : DataW H} {l : List (DataW H)} (h : d ∈ l) : Rows.uptoBulk d ≤ Rows.uptoBulkAll l := by
 induction l with
 | nil => cases h
 | cons x l ih =>
  simp only [Rows.uptoBulkAll]
  rcases List.mem_cons.1 h with rfl | h
  ·omega
  ·have := ih h; omega
theorem bulkAll_len (l : List (DataW H)) : l.length ≤ Rows.uptoBulkAll l := by
 induction l with
 | nil => simp
 | cons x l ih => simp only [Rows.uptoBulkAll, List.length_cons]; have := bulk_pos x; omega
theorem bulkAll_range_succ (D : Nat → DataW H) (n : Nat) : Rows.uptoBulkAll ((List.range (n + 1)).map D) = Rows.uptoBulkAll ((List.range n).map D) + Rows.uptoBulk (D n) := by
 rw [List.range_succ, List.map_append, bulkAll_append]; simp [Rows.uptoBulkAll]

theorem open_row {t e : TypeId} {K B : Nat} (ht : Tryz.prog.underlying t = some (.slice e)) (hK : Tryz.prog.cellsOf e = K) (hK0 : 0 < K) {fuel : Nat} {cs : List Value} {d : DataW H} {ps : List MemPlace}
  (h : DataW.trod enc Tryz.prog W 0 (fun _ => true) true fuel t cs = some (d, ps)) (hlt : ∀ p ∈ ps, p.block < B) :
  ∃ (ao : Option Addr) (b o len cap n : Nat) (D : Nat → DataW H) (Pl : Nat → List MemPlace) (cc : Nat → List Value), n < fuel ∧ cs = [.slice ao len cap] ∧ (0 < len → ao = some ⟨b, o, none⟩ ∧ b < B) ∧
   Rows.uptoBulkAll ((List.range len).map D) + 1 ≤ Rows.uptoBulk d ∧
   ∀ i, i < len → (cc i).length = K ∧ (∀ j, j < K → W.cell? ⟨b, o + (i * K + j), none⟩ = (cc i)[j]?) ∧ DataW.trod enc Tryz.prog W 0 (fun _ => true) true n e (cc i) = some (D i, Pl i) ∧ ∀ p ∈ Pl i, p.block < B := by
 rcases DataW.trod_slice ht h with ⟨rfl, hx⟩ | ⟨a, len, cap, elems, rest, n, rfl, rfl, hx, _, _, _, hlen, hel, _, _⟩
 ·injection hx with hx _
  subst hx
  cases fuel with
  | zero => simp [DataW.trod] at h
  | succ n => exact ⟨none, 0, 0, 0, 0, n, fun _ => .nil, fun _ => [], fun _ => [], by omega, rfl, fun h => by omega, by simp [Rows.uptoBulkAll, Rows.uptoBulk], fun i hi => by omega⟩
 ·injection hx with hx hp
  subst hx hp
  have hD : elems.map (·.1) = (List.range len).map fun i => (elems.getD i (.nil, [])).1 := by
   rw [← hlen]
   refine List.ext_getElem (by simp) (fun i h1 h2 => ?_)
   simp at h1
   simp [List.getD, h1]
  have hbk : Rows.uptoBulkAll ((List.range len).map fun i => (elems.getD i (.nil, [])).1) + 1 ≤ Rows.uptoBulk (DataW.slice (elems.map (·.1)) (rest.map (·.1))) := by
   rw [← hD]; simp only [Rows.uptoBulk]; omega
  have hall : ∀ i, i < len → ∃ cc : List Value, W.cells? 0 (a.add (i * K)) K = some cc ∧ DataW.trod enc Tryz.prog W 0 (fun _ => true) true n e cc = some ((elems.getD i (.nil, [])).1, (elems.getD i (.nil, [])).2) := by
   intro i hi
   have := hel i hi
   rw [hK, List.getElem?_eq_getElem (by omega)] at this
   obtain ⟨cc, h1, h2⟩ := Option.bind_eq_some_iff.1 this
   refine ⟨cc, h1, ?_⟩
   rw [h2]
   simp [List.getD, List.getElem?_eq_getElem (show i < elems.length by omega)]
  obtain ⟨cc, hcc⟩ := Go.Deep.choose_lt hall
  have hpl : ∀ i, i < len → ∀ p ∈ (elems.getD i (.nil, [])).2, p.block < B := by
   intro i hi p hp
   refine hlt p (List.mem_append_right _ (List.mem_flatMap.2 ⟨elems[i]'(by omega), List.mem_append_left _ (List.getElem_mem _), ?_⟩))
   simpa [List.getD, List.getElem?_eq_getElem (show i < elems.length by omega)] using hp
  by_cases h0 : len = 0
  ·subst h0
   exact ⟨some a, 0, 0, 0, cap, n, fun i => (elems.getD i (.nil, [])).1, fun _ => [], cc, by omega, rfl, fun h => by omega, hbk, fun i hi => by omega⟩
  ·obtain ⟨b, off, spot⟩ := a
   have hcell : ∀ i, i < len → (cc i).length = K ∧ ∀ j, j < K → W.cell? ((⟨b, off, spot⟩ : Addr).add (i * K + j)) = (cc i)[j]? := by
    intro i hi
    obtain ⟨_, hl, hc⟩ := World.cells?_some (hcc i hi).1
    refine ⟨hl, fun j hj => ?_⟩
    rw [← Go.Deep.add_add]; exact hc j hj
   have hspot : spot = none := by
    have h9 := (hcell 0 (by omega)).2 0 hK0
    have h8 : ((⟨b, off, spot⟩ : Addr).add (0 * K + 0)) = ⟨b, off, spot⟩ := by simp [Addr.add]
    rw [h8] at h9
    obtain ⟨y, hy⟩ := at_some (hcell 0 (by omega)).1 (i := 0) hK0
    exact World.cell?_spot (h9.trans hy)
   subst hspot
   have hbW : b < B := hlt (.cell b off) (List.mem_append_left _ (MemPlace.mem_row.2 ⟨0, by rw [hK]; exact Nat.mul_pos (by omega) hK0, by simp⟩))
   refine ⟨some ⟨b, off, none⟩, b, off, len, cap, n, fun i => (elems.getD i (.nil, [])).1, fun i => (elems.getD i (.nil, [])).2, cc, by omega, rfl, fun _ => ⟨rfl, hbW⟩, hbk, fun i hi => ⟨(hcell i hi).1, fun j hj => ?_, (hcc i hi).2, hpl i hi⟩⟩
   rw [← (hcell i hi).2 j hj]
   congr 1
   unfold Addr.add
   split
   ·rename_i h0; rw [h0]; rfl
   ·rfl
theorem wts_range (f : Nat → T) (D : Nat → DataW H) (n : Nat) (h : ∀ i, i < n → (f i).wt + 1 ≤ Rows.uptoBulk (D i)) : wts ((List.range n).map f) + n ≤ Rows.uptoBulkAll ((List.range n).map D) := by
 induction n with
 | zero => simp [wts]
 | succ n ih =>
  have h1 := ih (fun i hi => h i (by omega))
  have h2 := h n (by omega)
  rw [bulkAll_range_succ, List.range_succ, List.map_append, wts_append]
  simp only [List.map_cons, List.map_nil, wts]
  omega
theorem list_at {B K len b o : Nat} {ao : Option Addr} {cc : Nat → List Value} (t : Nat → T) (hn : len ≤ 1152921504606846976) (hao : 0 < len → ao = some ⟨b, o, none⟩ ∧ b < B) (hc : ∀ i, i < len → (cc i).length = K ∧ ∀ j, j < K → W.cell? ⟨b, o + (i * K + j), none⟩ = (cc i)[j]?) (he : ∀ i, i < len → At W B (t i) (cc i)) : LAt W B K ((List.range len).map t) ao len :=
 ⟨by simp, hn, b, o, cc, hao, hc, fun i hi => by
  rw [List.getElem_map, List.getElem_range]
  exact he i (by simpa using hi)⟩
instance : Inhabited T := ⟨.yes false⟩
def Reads (enc : TypeId × Value → H) (W : World) (B N : Nat) (t : TypeId) (K : Nat) (P : T → Prop) : Prop :=
 Tryz.prog.cellsOf t = K ∧ 0 < K ∧ ∀ fuel, fuel < N → ∀ (cs : List Value) (d : DataW H) (ps : List MemPlace), cs.length = K → DataW.trod enc Tryz.prog W 0 (fun _ => true) true fuel t cs = some (d, ps) → (∀ p ∈ ps, p.block < B) → Rows.uptoBulk d ≤ 1048576 →
  ∃ x, P x ∧ At W B x cs ∧ x.wt + 1 ≤ Rows.uptoBulk d
variable {B N : Nat}
theorem Reads.mono {N' : Nat} {t : TypeId} {K : Nat} {P : T → Prop} (h : Reads enc W B N t K P) (hN : N' ≤ N) : Reads enc W B N' t K P :=
 ⟨h.1, h.2.1, fun fuel hf => h.2.2 fuel (by omega)⟩
theorem Reads.as {t : TypeId} {K : Nat} {P P' : T → Prop} (h : Reads enc W B N t K P) (hP : ∀ x, P x → P' x) : Reads enc W B N t K P' :=
 ⟨h.1, h.2.1, fun fuel hf cs d ps hl h1 h2 h3 => by obtain ⟨x, a, b, c⟩ := h.2.2 fuel hf cs d ps hl h1 h2 h3; exact ⟨x, hP x a, b, c⟩⟩
theorem Reads.none {t : TypeId} {K : Nat} {P : T → Prop} (h1 : Tryz.prog.cellsOf t = K) (h2 : 0 < K) : Reads enc W B 0 t K P := ⟨h1, h2, fun _ h => by omega⟩
theorem one_of_length {α : Type} {l : List α} (h : l.length = 1) : ∃ x, l = [x] := by
 match l, h with
 | [x], _ => exact ⟨x, rfl⟩
theorem reads_int {t : TypeId} {k : IntKind} (ht : Tryz.prog.underlying t = some (.int k)) (hc : Tryz.prog.cellsOf t = 1) : Reads enc W B N t 1 (fun x => ∃ n, x = .int k n) :=
 ⟨hc, by omega, fun fuel _ cs d ps hl h1 _ _ => by
  obtain ⟨c, rfl⟩ := one_of_length hl
  obtain ⟨m, rfl, hw⟩ := one_cell_int ht h1
  exact ⟨.int k m, ⟨m, rfl⟩, .int k m hw, by rw [T.wt]; exact bulk_pos d⟩⟩
theorem reads_txt : Reads enc W B N 9 1 (fun x => ∃ s, x = .txt s) :=
 ⟨by kernel_rfl, by omega, fun fuel _ cs d ps hl h1 _ hb => by
  obtain ⟨c, rfl⟩ := one_of_length hl
  obtain ⟨s, rfl, hs⟩ := one_cell_string h1
  have hs : Rows.uptoBulk d = s.size + 1 := hs
  exact ⟨.txt s, ⟨s, rfl⟩, .txt s (by omega), by rw [T.wt]; omega⟩⟩
theorem reads_lst {t e : TypeId} {K : Nat} {P : T → Prop} (ht : Tryz.prog.underlying t = some (.slice e)) (hc : Tryz.prog.cellsOf t = 1) (h : Reads enc W B N e K P) : Reads enc W B (N + 1) t 1 (fun x => ∃ es, x = .lst e K es ∧ ∀ y ∈ es, P y) :=
 ⟨hc, by omega, fun fuel hf cs d ps hl h1 hlt hb => by
  obtain ⟨ao, b, o, len, cap, n, D, Pl, cc, hn, rfl, hao, hbk, hel⟩ := open_row ht h.1 h.2.1 h1 hlt
  have hl := bulkAll_len ((List.range len).map D)
  simp only [List.length_map, List.length_range] at hl
  have each : ∀ i, i < len → ∃ x : T, P x ∧ At W B x (cc i) ∧ x.wt + 1 ≤ Rows.uptoBulk (D i) := fun i hi => by
   obtain ⟨g1, _, g2, g3⟩ := hel i hi
   have hbi := bulkAll_mem (List.mem_map_of_mem (f := D) (List.mem_range.2 hi))
   exact h.2.2 n (by omega) _ _ _ g1 g2 g3 (by omega)
  obtain ⟨q, hq⟩ := Go.Deep.choose_lt each
  have hs := wts_range q D len (fun i hi => (hq i hi).2.2)
  have hLA := list_at (W := W) (B := B) (K := K) (cc := cc) (ao := ao) (b := b) (o := o) q (len := len) (by omega) hao (fun i hi => ⟨(hel i hi).1, (hel i hi).2.1⟩) (fun i hi => (hq i hi).2.1)
  refine ⟨.lst e K ((List.range len).map q), ⟨_, rfl, fun y hy => ?_⟩, LAt.at e hLA, ?_⟩
  ·obtain ⟨i, hi, rfl⟩ := List.mem_map.1 hy
   exact (hq i (List.mem_range.1 hi)).1
  ·rw [T.wt, List.length_map, List.length_range]; omega⟩
abbrev Part := TypeId × Nat × (T → Prop)
def offs : Nat → List Part → List (TypeId × Nat)
 | _, [] => []
 | k, f :: r => (f.1, k) :: offs (k + f.2.1) r
def sizes : List Part → Nat
 | [] => 0
 | f :: r => f.2.1 + sizes r
inductive Fits : List Part → List T → Prop
 | nil : Fits [] []
 | cons {f : Part} {x : T} {F : List Part} {l : List T} (h : f.2.2 x) (t : Fits F l) : Fits (f :: F) (x :: l)
theorem parts_read {m : Nat} (hm : m < N) (cs : List Value) (F : List Part) (hR : ∀ f ∈ F, Reads enc W B N f.1 f.2.1 f.2.2) : ∀ (k : Nat) (xs : List (DataW H × List MemPlace)), cs.length = k + sizes F → xs.length = F.length →
  (∀ (i : Nat) (f : TypeId × Nat), (offs k F)[i]? = some f → DataW.trod enc Tryz.prog W 0 (fun _ => true) true m f.1 ((cs.drop f.2).take (Tryz.prog.cellsOf f.1)) = xs[i]?) → (∀ p ∈ xs.flatMap (·.2), p.block < B) → Rows.uptoBulkAll (xs.map (·.1)) ≤ 1048576 →
  ∃ l, Fits F l ∧ At W B (.obj l) (cs.drop k) ∧ wts l + F.length ≤ Rows.uptoBulkAll (xs.map (·.1)) := by
 induction F with
 | nil =>
  intro k xs hl _ _ _ _
  refine ⟨[], .nil, ?_, by simp [wts]⟩
  rw [List.drop_of_length_le (by simp only [sizes] at hl; omega)]
  exact .nil
 | cons f F ih =>
  intro k xs hl hx hf hlt hb
  obtain ⟨⟨d, ps⟩, xs, rfl⟩ : ∃ y ys, xs = y :: ys := by cases xs with
   | nil => simp at hx
   | cons y ys => exact ⟨y, ys, rfl⟩
  have h0 := hR f (by simp)
  have hf0 := hf 0 (f.1, k) rfl
  simp only [List.getElem?_cons_zero] at hf0
  rw [h0.1] at hf0
  simp only [sizes] at hl
  simp only [List.map_cons, Rows.uptoBulkAll] at hb ⊢
  simp only [List.flatMap_cons, List.mem_append] at hlt
  obtain ⟨x, hx1, hx2, hx3⟩ := h0.2.2 m hm _ d ps (by rw [List.length_take, List.length_drop]; omega) hf0 (fun p hp => hlt p (.inl hp)) (by omega)
  obtain ⟨l, hl1, hl2, hl3⟩ := ih (fun g hg => hR g (by simp [hg])) (k + f.2.1) xs (by omega) (by simpa using hx) (fun i g hg => by have := hf (i + 1) g (by simpa [offs] using hg); simpa using this) (fun p hp => hlt p (.inr hp)) (by omega)
  refine ⟨x :: l, .cons hx1 hl1, ?_, by rw [wts, List.length_cons]; omega⟩
  rw [← List.take_append_drop f.2.1 (cs.drop k), List.drop_drop]
  exact .cons _ _ _ _ hx2 hl2
theorem reads_struct {t : TypeId} {fs : Array Field} (ht : Tryz.prog.underlying t = some (.struct fs)) (F : List Part) (hF : offs 0 F = fs.toList.map fun f => (f.type, f.offset)) (hc : Tryz.prog.cellsOf t = sizes F) (h0 : 0 < sizes F) (hR : ∀ f ∈ F, Reads enc W B N f.1 f.2.1 f.2.2) :
  Reads enc W B (N + 1) t (sizes F) (fun x => ∃ l, x = .obj l ∧ Fits F l) :=
 ⟨hc, h0, fun fuel hf cs d ps hl h1 hlt hb => by
  obtain ⟨xs, m, rfl, hx, hl2, hlen, hfs⟩ := DataW.trod_struct ht h1
  injection hx with hx1 hx2
  subst hx1 hx2
  have hoff : ∀ (k : Nat) (F : List Part), (offs k F).length = F.length := fun k F => by
   induction F generalizing k with
   | nil => rfl
   | cons f F ih => simp [offs, ih]
  have hFl : xs.length = F.length := by rw [hlen, ← hoff 0 F, hF]; simp
  simp only [Rows.uptoBulk] at hb ⊢
  obtain ⟨l, g1, g2, g3⟩ := parts_read (m := m) (by omega) cs F hR 0 xs (by omega) hFl (fun i f hf => by
   rw [hF, List.getElem?_map] at hf
   obtain ⟨g, hg, rfl⟩ := Option.map_eq_some_iff.1 hf
   exact hfs i g (by simpa using hg)) hlt (by omega)
  have hpos : 0 < F.length := by
   cases F with
   | nil => simp [sizes] at h0
   | cons f F => simp
  refine ⟨.obj l, ⟨l, rfl, g1⟩, by simpa using g2, ?_⟩
  rw [T.wt]; omega⟩
theorem Fits.inv {f : Part} {F : List Part} {l : List T} (h : Fits (f :: F) l) : ∃ x r, l = x :: r ∧ f.2.2 x ∧ Fits F r := by
 cases h with
 | cons h t => exact ⟨_, _, rfl, h, t⟩
theorem Fits.nil_inv {l : List T} (h : Fits [] l) : l = [] := by cases h; rfl
theorem map_of {α : Type} {f : α → T} {es : List T} (h : ∀ y ∈ es, ∃ v, y = f v) : ∃ L : List α, es = L.map f := by
 induction es with
 | nil => exact ⟨[], rfl⟩
 | cons y r ih =>
  obtain ⟨v, rfl⟩ := h y (by simp)
  obtain ⟨L, rfl⟩ := ih fun z hz => h z (by simp [hz])
  exact ⟨v :: L, rfl⟩
def partsEx : List Part := [(44, 1, fun x => ∃ n, x = .int .u8 n), (2, 1, fun x => ∃ n, x = .int .i64 n), (9, 1, fun x => ∃ s, x = .txt s), (45, 1, fun x => ∃ es, x = .lst 50 10 es ∧ ∀ y ∈ es, ∃ v : Ex, y = v.tr), (46, 1, fun x => ∃ es, x = .lst 9 1 es ∧ ∀ y ∈ es, ∃ s, y = .txt s), (45, 1, fun x => ∃ es, x = .lst 50 10 es ∧ ∀ y ∈ es, ∃ v : Ex, y = v.tr), (47, 1, fun x => ∃ n, x = .int .u8 n), (45, 1, fun x => ∃ es, x = .lst 50 10 es ∧ ∀ y ∈ es, ∃ v : Ex, y = v.tr), (48, 1, fun x => ∃ es, x = .lst 101 12 es ∧ ∀ y ∈ es, ∃ v : Ac, y = v.tr), (9, 1, fun x => ∃ s, x = .txt s)]
theorem dataEx {x : T} (h : ∃ l, x = .obj l ∧ Fits partsEx l) : ∃ v : Ex, x = v.tr := by
 obtain ⟨l0, rfl, k0⟩ := h
 obtain ⟨x0, l1, rfl, h0, k1⟩ := k0.inv
 obtain ⟨v0, rfl⟩ : ∃ v, x0 = _ := h0
 obtain ⟨x1, l2, rfl, h1, k2⟩ := k1.inv
 obtain ⟨v1, rfl⟩ : ∃ v, x1 = _ := h1
 obtain ⟨x2, l3, rfl, h2, k3⟩ := k2.inv
 obtain ⟨v2, rfl⟩ : ∃ v, x2 = _ := h2
 obtain ⟨x3, l4, rfl, h3, k4⟩ := k3.inv
 obtain ⟨e3, rfl, h3⟩ := h3
 obtain ⟨v3, rfl⟩ := map_of h3
 obtain ⟨x4, l5, rfl, h4, k5⟩ := k4.inv
 obtain ⟨e4, rfl, h4⟩ := h4
 obtain ⟨v4, rfl⟩ := map_of h4
 obtain ⟨x5, l6, rfl, h5, k6⟩ := k5.inv
 obtain ⟨e5, rfl, h5⟩ := h5
 obtain ⟨v5, rfl⟩ := map_of h5
 obtain ⟨x6, l7, rfl, h6, k7⟩ := k6.inv
 obtain ⟨v6, rfl⟩ : ∃ v, x6 = _ := h6
 obtain ⟨x7, l8, rfl, h7, k8⟩ := k7.inv
 obtain ⟨e7, rfl, h7⟩ := h7
 obtain ⟨v7, rfl⟩ := map_of h7
 obtain ⟨x8, l9, rfl, h8, k9⟩ := k8.inv
 obtain ⟨e8, rfl, h8⟩ := h8
 obtain ⟨v8, rfl⟩ := map_of h8
 obtain ⟨x9, l10, rfl, h9, k10⟩ := k9.inv
 obtain ⟨v9, rfl⟩ : ∃ v, x9 = _ := h9
 obtain rfl := k10.nil_inv
 exact ⟨.mk v0 v1 v2 v3 v4 v5 v6 v7 v8 v9, by rw [Ex.tr_eq]; rfl⟩
def partsAc : List Part := [(99, 1, fun x => ∃ n, x = .int .u8 n), (9, 1, fun x => ∃ s, x = .txt s), (50, 10, fun x => ∃ v : Ex, x = v.tr)]
theorem dataAc {x : T} (h : ∃ l, x = .obj l ∧ Fits partsAc l) : ∃ v : Ac, x = v.tr := by
 obtain ⟨l0, rfl, k0⟩ := h
 obtain ⟨x0, l1, rfl, h0, k1⟩ := k0.inv
 obtain ⟨v0, rfl⟩ : ∃ v, x0 = _ := h0
 obtain ⟨x1, l2, rfl, h1, k2⟩ := k1.inv
 obtain ⟨v1, rfl⟩ : ∃ v, x1 = _ := h1
 obtain ⟨x2, l3, rfl, h2, k3⟩ := k2.inv
 obtain ⟨v2, rfl⟩ : ∃ v : Ex, x2 = v.tr := h2
 obtain rfl := k3.nil_inv
 exact ⟨.mk v0 v1 v2, by rw [Ac.tr_eq]; rfl⟩
theorem reads_ExAc : Reads enc W B N 50 10 (fun x => ∃ v : Ex, x = v.tr) ∧ Reads enc W B N 101 12 (fun x => ∃ v : Ac, x = v.tr) := by
 induction N with
 | zero => exact ⟨.none (by kernel_rfl) (by omega), .none (by kernel_rfl) (by omega)⟩
 | succ N ih =>
  have hEx : ∀ f ∈ partsEx, Reads enc W B N f.1 f.2.1 f.2.2 := by
   unfold partsEx
   simp only [List.mem_cons, List.not_mem_nil, or_false]
   rintro f (rfl | rfl | rfl | rfl | rfl | rfl | rfl | rfl | rfl | rfl)
   ·exact reads_int Tryz.underlying44 (by kernel_rfl)
   ·exact reads_int Tryz.underlying2 (by kernel_rfl)
   ·exact reads_txt
   ·exact ((reads_lst Tryz.underlying45 (by kernel_rfl) ih.1).mono (Nat.le_succ _))
   ·exact ((reads_lst Tryz.underlying46 (by kernel_rfl) reads_txt).mono (Nat.le_succ _))
   ·exact ((reads_lst Tryz.underlying45 (by kernel_rfl) ih.1).mono (Nat.le_succ _))
   ·exact reads_int Tryz.underlying47 (by kernel_rfl)
   ·exact ((reads_lst Tryz.underlying45 (by kernel_rfl) ih.1).mono (Nat.le_succ _))
   ·exact ((reads_lst Tryz.underlying48 (by kernel_rfl) ih.2).mono (Nat.le_succ _))
   ·exact reads_txt
  have hAc : ∀ f ∈ partsAc, Reads enc W B N f.1 f.2.1 f.2.2 := by
   unfold partsAc
   simp only [List.mem_cons, List.not_mem_nil, or_false]
   rintro f (rfl | rfl | rfl)
   ·exact reads_int Tryz.underlying99 (by kernel_rfl)
   ·exact reads_txt
   ·exact ih.1
  exact ⟨((reads_struct Tryz.underlying50 partsEx rfl (by kernel_rfl) (by decide) hEx).as fun x => dataEx), ((reads_struct Tryz.underlying101 partsAc rfl (by kernel_rfl) (by decide) hAc).as fun x => dataAc)⟩
theorem readsEx : Reads enc W B N 50 10 (fun x => ∃ v : Ex, x = v.tr) := reads_ExAc.1
theorem readsAc : Reads enc W B N 101 12 (fun x => ∃ v : Ac, x = v.tr) := reads_ExAc.2
def partsSt : List Part := [(61, 1, fun x => ∃ n, x = .int .u8 n), (9, 1, fun x => ∃ s, x = .txt s), (9, 1, fun x => ∃ s, x = .txt s), (50, 10, fun x => ∃ v : Ex, x = v.tr), (45, 1, fun x => ∃ es, x = .lst 50 10 es ∧ ∀ y ∈ es, ∃ v : Ex, y = v.tr), (48, 1, fun x => ∃ es, x = .lst 101 12 es ∧ ∀ y ∈ es, ∃ v : Ac, y = v.tr), (48, 1, fun x => ∃ es, x = .lst 101 12 es ∧ ∀ y ∈ es, ∃ v : Ac, y = v.tr), (43, 1, fun x => ∃ es, x = .lst 63 17 es ∧ ∀ y ∈ es, ∃ v : St, y = v.tr)]
theorem dataSt {x : T} (h : ∃ l, x = .obj l ∧ Fits partsSt l) : ∃ v : St, x = v.tr := by
 obtain ⟨l0, rfl, k0⟩ := h
 obtain ⟨x0, l1, rfl, h0, k1⟩ := k0.inv
 obtain ⟨v0, rfl⟩ : ∃ v, x0 = _ := h0
 obtain ⟨x1, l2, rfl, h1, k2⟩ := k1.inv
 obtain ⟨v1, rfl⟩ : ∃ v, x1 = _ := h1
 obtain ⟨x2, l3, rfl, h2, k3⟩ := k2.inv
 obtain ⟨v2, rfl⟩ : ∃ v, x2 = _ := h2
 obtain ⟨x3, l4, rfl, h3, k4⟩ := k3.inv
 obtain ⟨v3, rfl⟩ : ∃ v : Ex, x3 = v.tr := h3
 obtain ⟨x4, l5, rfl, h4, k5⟩ := k4.inv
 obtain ⟨e4, rfl, h4⟩ := h4
 obtain ⟨v4, rfl⟩ := map_of h4
 obtain ⟨x5, l6, rfl, h5, k6⟩ := k5.inv
 obtain ⟨e5, rfl, h5⟩ := h5
 obtain ⟨v5, rfl⟩ := map_of h5
 obtain ⟨x6, l7, rfl, h6, k7⟩ := k6.inv
 obtain ⟨e6, rfl, h6⟩ := h6
 obtain ⟨v6, rfl⟩ := map_of h6
 obtain ⟨x7, l8, rfl, h7, k8⟩ := k7.inv
 obtain ⟨e7, rfl, h7⟩ := h7
 obtain ⟨v7, rfl⟩ := map_of h7
 obtain rfl := k8.nil_inv
 exact ⟨.mk v0 v1 v2 v3 v4 v5 v6 v7, by rw [St.tr_eq]; rfl⟩
theorem reads_St : Reads enc W B N 63 17 (fun x => ∃ v : St, x = v.tr) := by
 induction N with
 | zero => exact .none (by kernel_rfl) (by omega)
 | succ N ih =>
  have hSt : ∀ f ∈ partsSt, Reads enc W B N f.1 f.2.1 f.2.2 := by
   unfold partsSt
   simp only [List.mem_cons, List.not_mem_nil, or_false]
   rintro f (rfl | rfl | rfl | rfl | rfl | rfl | rfl | rfl)
   ·exact reads_int Tryz.underlying61 (by kernel_rfl)
   ·exact reads_txt
   ·exact reads_txt
   ·exact readsEx
   ·exact ((reads_lst Tryz.underlying45 (by kernel_rfl) readsEx).mono (Nat.le_succ _))
   ·exact ((reads_lst Tryz.underlying48 (by kernel_rfl) readsAc).mono (Nat.le_succ _))
   ·exact ((reads_lst Tryz.underlying48 (by kernel_rfl) readsAc).mono (Nat.le_succ _))
   ·exact ((reads_lst Tryz.underlying43 (by kernel_rfl) ih).mono (Nat.le_succ _))
  exact ((reads_struct Tryz.underlying63 partsSt rfl (by kernel_rfl) (by decide) hSt).as fun x => dataSt)
theorem readsSt : Reads enc W B N 63 17 (fun x => ∃ v : St, x = v.tr) := reads_St
def partsCo : List Part := [(9, 1, fun x => ∃ s, x = .txt s), (9, 1, fun x => ∃ s, x = .txt s), (43, 1, fun x => ∃ es, x = .lst 63 17 es ∧ ∀ y ∈ es, ∃ v : St, y = v.tr), (50, 10, fun x => ∃ v : Ex, x = v.tr)]
theorem dataCo {x : T} (h : ∃ l, x = .obj l ∧ Fits partsCo l) : ∃ v : Co, x = v.tr := by
 obtain ⟨l0, rfl, k0⟩ := h
 obtain ⟨x0, l1, rfl, h0, k1⟩ := k0.inv
 obtain ⟨v0, rfl⟩ : ∃ v, x0 = _ := h0
 obtain ⟨x1, l2, rfl, h1, k2⟩ := k1.inv
 obtain ⟨v1, rfl⟩ : ∃ v, x1 = _ := h1
 obtain ⟨x2, l3, rfl, h2, k3⟩ := k2.inv
 obtain ⟨e2, rfl, h2⟩ := h2
 obtain ⟨v2, rfl⟩ := map_of h2
 obtain ⟨x3, l4, rfl, h3, k4⟩ := k3.inv
 obtain ⟨v3, rfl⟩ : ∃ v : Ex, x3 = v.tr := h3
 obtain rfl := k4.nil_inv
 exact ⟨.mk v0 v1 v2 v3, by rw [Co.tr_eq]; rfl⟩
theorem reads_Co : Reads enc W B N 52 13 (fun x => ∃ v : Co, x = v.tr) := by
 induction N with
 | zero => exact .none (by kernel_rfl) (by omega)
 | succ N ih =>
  have hCo : ∀ f ∈ partsCo, Reads enc W B N f.1 f.2.1 f.2.2 := by
   unfold partsCo
   simp only [List.mem_cons, List.not_mem_nil, or_false]
   rintro f (rfl | rfl | rfl | rfl)
   ·exact reads_txt
   ·exact reads_txt
   ·exact ((reads_lst Tryz.underlying43 (by kernel_rfl) readsSt).mono (Nat.le_succ _))
   ·exact readsEx
  exact ((reads_struct Tryz.underlying52 partsCo rfl (by kernel_rfl) (by decide) hCo).as fun x => dataCo)
theorem readsCo : Reads enc W B N 52 13 (fun x => ∃ v : Co, x = v.tr) := reads_Co
theorem read_program (fuel : Nat) (c : Value) (d : DataW H) (ps : List MemPlace) (h : DataW.trod enc Tryz.prog W 0 (fun _ => true) true fuel 23 [c] = some (d, ps)) (hlt : ∀ p ∈ ps, p.block < B) (hb : Rows.uptoBulk d ≤ 1048576) :
  ∃ (L : List Co) (a : Option Addr) (n cap : Nat), c = .slice a n cap ∧ CoLs W B L a n ∧ L.length + wts (L.map Co.tr) + 1 ≤ Rows.uptoBulk d := by
 obtain ⟨x, ⟨es, rfl, hes⟩, h2, h3⟩ := (reads_lst (N := fuel + 1) (enc := enc) (W := W) (B := B) Tryz.underlying23 (by kernel_rfl) readsCo).2.2 fuel (by omega) [c] d ps rfl h hlt hb
 obtain ⟨L, rfl⟩ := map_of hes
 obtain ⟨ao, cap, e, hl⟩ := h2.lst_inv
 rw [T.wt, List.length_map] at h3
 injection e with e _
 exact ⟨L, ao, _, cap, e, by rw [List.length_map] at hl ⊢; exact hl, h3⟩
end

theorem own : ownKnob Tryz.prog.godebug = none := by kernel_rfl
theorem laidOut : laidOutB Tryz.prog = true := by kernel_rfl
theorem bound_one {H : Type} {d : DataW H} {gs : List (DataW H)} (hk : Rows.uptoSmall H ([d] ++ gs) = true) : Rows.uptoBulk d ≤ 1048576 := by
 have h : Rows.uptoBulkAll ([d] ++ gs) ≤ 1048576 := of_decide_eq_true hk
 have := bulkAll_mem (show d ∈ [d] ++ gs from by simp)
 omega
theorem pow10_data : Rows.laid_internal_strconv_uint64pow10 = (Lib.tabData .u64 Lib.pow10Tab : DataW Unit) := by kernel_rfl
theorem tErr0 : (Tryz.prog.globals[1]?).map (·.type) = some 71 := by kernel_rfl
theorem tErr1 : (Tryz.prog.globals[2]?).map (·.type) = some 71 := by kernel_rfl
theorem tPow : (Tryz.prog.globals[0]?).map (·.type) = some 173 := by kernel_rfl
theorem rowErr (u : TypeId) (h : Tryz.prog.typeName? 3 u = some "*errors.errorString") : u = 202 :=
 typeName_ptr_named (nm := "errors.errorString") (by kernel_rfl) (by kernel_rfl) (by decide) u h
theorem env_of_laid {W : World} (h : laidMetH Tryz.prog Rows.printTextsUptoRow.laid W) : Lx.Env W := by
 rw [MakeChecks.laidMetH_plain _ _ _ (by kernel_rfl)] at h
 replace h : laidMet Tryz.prog [("math/bits.deBruijn32tab", Rows.laid_math_bits_deBruijn32tab), ("math/bits.deBruijn64tab", Rows.laid_math_bits_deBruijn64tab), ("internal/strconv.uint64pow10", Rows.laid_internal_strconv_uint64pow10), ("strconv.ErrRange", Rows.laid_strconv_ErrRange), ("strconv.ErrSyntax", Rows.laid_strconv_ErrSyntax)] W := h
 rw [pow10_data] at h
 have h1 := h.tail.tail
 have h2 := h1.tail
 have h3 := h2.tail
 refine ⟨?_, ?_, ?_⟩
 ·obtain ⟨a, s, hv, _⟩ := laid_sentinel h3 Lx.env_g0 tErr0 Tryz.underlying71 rowErr Tryz.underlying202 Tryz.underlying204 rfl rfl Tryz.underlying9 (by kernel_rfl) (by kernel_rfl)
  exact ⟨_, _, hv⟩
 ·obtain ⟨a, s, hv, _⟩ := laid_sentinel h2 Lx.env_g1 tErr1 Tryz.underlying71 rowErr Tryz.underlying202 Tryz.underlying204 rfl rfl Tryz.underlying9 (by kernel_rfl) (by kernel_rfl)
  exact ⟨_, _, hv⟩
 ·exact Lib.tabIs_of_head Lx.env_g2 tPow Tryz.underlying173 Tryz.underlying112 (by kernel_rfl) (by kernel_rfl) h1
theorem laid_met (os : Os) : laidMetH Tryz.prog Rows.printTextsUptoRow.laid ((World.doorLaid Tryz.prog 62 os).forCall (fun _ _ => 0) ⟨#[], #[.slice none 0 0], []⟩).memory :=
 laidMetH_of_parts3 (fuel := 8) (laidMet_of_run' 8 (by kernel_rfl) (by kernel_rfl)) (by kernel_rfl) (by kernel_rfl)
theorem reads (os : Os) {H : Type} (enc : TypeId × Value → H) : ∃ places, DataW.whole enc Tryz.prog ((World.doorLaid Tryz.prog 62 os).forCall (fun _ _ => 0) ⟨#[], #[.slice none 0 0], []⟩).memory Tryz.f3.params.toList Rows.printTextsSpec.vars false #[Value.slice none 0 0].toList 8 = some ([.nil], [], places) :=
 ⟨[], by kernel_rfl⟩
theorem printTexts_lifted (os : Os) (started : os.Started) (H : Type) (enc : TypeId × Value → H) (F : Stop.Interp) :
  ReturnsInHanded {} Tryz.checked os 3 .any ((Rows.OpenSpec.upto Rows.printTextsSpec).preRow enc Tryz.prog Tryz.f3 Rows.printTextsUptoRow.domain false Rows.printTextsUptoRow.laid) (((Rows.OpenSpec.upto Rows.printTextsSpec).at F).post enc Tryz.prog Tryz.f3 false true false false) := by
 obtain ⟨places, hx⟩ := reads os enc
 refine returnsInHanded_of_row (C := Tryz.checked) (s := Rows.OpenSpec.upto Rows.printTextsSpec) own started (by kernel_rfl) Tryz.func3
  (witness_row_at (enc := enc) (C := Tryz.checked) false (World.doorLaid Tryz.prog 62 os) #[.slice none 0 0] rfl (by kernel_rfl) (by kernel_rfl) (by kernel_rfl)
   (OpenSpec.preRow_of_cond 8 hx (by kernel_rfl) (fun k hk => by cases hk; kernel_rfl) (by kernel_rfl) (laid_met os))) ?_
 intro W base args ds gs before hval0 hW _ hcond _ hL _ _
 have hk := hcond _ rfl
 have hval : ∀ (j : Nat) t v, Tryz.f3.params[j]? = some t → args[j]? = some v → Value.okWide Tryz.prog W .any base t v := hval0
 have hW' := hW
 obtain ⟨p, q, hA0, hV, rfl, _, _⟩ := hW
 have hA : DataW.TrodAll enc Tryz.prog W 0 (fun _ => true) true Tryz.f3.params.toList args.toList ds p := hA0
 rw [Tryz.params3] at hA hval
 obtain ⟨v0, d0, rfl, rfl, h0⟩ := trodAll_one hA
 obtain ⟨rfl, rfl⟩ := trodVars_none hV
 obtain ⟨a0, len, cap, rfl⟩ := okWide_slice Tryz.underlying23 (hval 0 23 v0 rfl rfl)
 have h0k := h0
 obtain ⟨fuel, hf⟩ := h0
 clear hA0 hval0
 simp only [List.append_nil] at hW'
 have hlt : ∀ x ∈ p, x.block < W.heap.size := fun x hx => by simpa using hW'.lt x hx
 have hargs : ∀ (W' : World), Below W.heap.size W W' → DataW.Trod enc Tryz.prog W' 0 (fun b => decide (b < W.heap.size)) true 23 (.slice a0 len cap) d0 p :=
  fun W' hn => Below.trod laidOut (by kernel_rfl) (of_decide_eq_true (by kernel_rfl)) h0k hn hlt
 have fin : ∀ e W', (e = Ending.returned (.bool true) ∧ Below W.heap.size W W') →
   ∃ v, e = Ending.returned v ∧ ((Rows.OpenSpec.upto Rows.printTextsSpec).at F).post enc Tryz.checked.prog Tryz.f3 false true false false W #[.slice a0 len cap] v W' := by
  intro e W' ⟨he, hnx⟩
  subst he
  exact ⟨_, rfl, _, _, _, [], p, [], hW', trodAll_mk1 (shut_bool Tryz.underlying4 _), trodAll_mk1 (hargs _ hnx), rfl, hnx.frame _, fun h => by cases h⟩
 have hb := bound_one hk
 have hf' : DataW.trod enc Tryz.prog W 0 (fun _ => true) true fuel 23 [.slice a0 len cap] = some (d0, p) := hf
 obtain ⟨L, ao, n, c, h1, h2, h3⟩ := read_program fuel _ d0 p hf' hlt hb
 have hE := env_of_laid hL
 have e1 : a0 = ao ∧ len = n ∧ cap = c := by
  have h9 : (Value.slice a0 len cap) = .slice ao n c := h1
  injection h9 with g1 g2 g3
  exact ⟨g1, g2, g3⟩
 obtain ⟨rfl, rfl, rfl⟩ := e1
 exact (printTexts_main L a0 len cap W hE (by omega) h2).mono fin

theorem printTexts_row : Rows.PrintTextsUptoSaid :=
 OpenClaim.holds_of_cond 3 Tryz.f3 rfl rfl rfl rfl rfl rfl rfl ⟨rfl, rfl, rfl, rfl, rfl⟩ rfl rfl rfl rfl rfl (by kernel_rfl) Tryz.func3 (by kernel_rfl)
  (of_decide_eq_true (by kernel_rfl)) (by unfold Func.isWrapper; first | (rw [if_pos (by decide +kernel)]; kernel_rfl) | (rw [if_neg (by decide +kernel)]; exact ⟨rfl, rfl⟩))
  (fun os started H enc _ F => by rw [OpenClaim.pre_eq_preRow]; exact printTexts_lifted os started H enc F)

theorem plain (f : FuncId) (fn : Func) (hf : Tryz.pinned.checked.prog.funcNamed "tapestry/tapestrylaw05.PrintTexts" = some f) (hfn : Tryz.pinned.checked.prog.funcs[f]? = some fn) :
  true = Tryz.pinned.checked.prog.looks [] ∧ ∀ (j : Nat) t, fn.params[j]? = some t → Tryz.pinned.checked.prog.wantsStandIn t = false := by
 obtain rfl : f = 3 := Option.some.inj ((show Tryz.prog.funcNamed "tapestry/tapestrylaw05.PrintTexts" = some 3 by kernel_rfl).symm.trans hf) |>.symm
 obtain rfl : fn = Tryz.f3 := (Option.some.inj (Tryz.func3.symm.trans hfn)).symm
 refine ⟨by kernel_rfl, fun j t ht => ?_⟩
 rw [Tryz.params3] at ht
 obtain rfl : t = 23 := by simpa using Array.mem_of_getElem? ht
 exact (show Tryz.prog.wantsStandIn 23 = false by kernel_rfl)

theorem printTexts_holds : Rows.PrintTextsUptoCardSaid :=
 Claim7.holds_tied_plain_at .later [] _ _ _ _ printTexts_row (fun _ h => by cases h) (by kernel_rfl) (fun _ h => by cases h) printTextsUpto_row_tie rfl ⟨rfl, rfl⟩ (by kernel_rfl) rfl plain (by kernel_rfl)
#print axioms printTexts_holds
end Go.Proofs.YtlppklbmdedipaaGreatDoor
