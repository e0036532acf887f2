/- plain and unlike: they end; what unlike says when it says yes. (By XBgN.gen.py.) -/
import Derived.Test.YtehcbicngbibgaaBgB
import Derived.Test.YtehcbicngbibgaaBgI
namespace Go.Proofs.Ytehcbicngbibgaa
open Go Go.RowKit Go.Maps

def AttrsAt (w : World) (B : Nat) (s : Seat) : Prop := ∃ (N : Nat → ByteArray) (L : Nat → Val), FieldsAt w B s.aa s.an N L
def SomeBool (e : Ending) : Prop := ∃ b : Bool, e = .returned (.bool b)
/-- It ends with a bool, and what was there stays. -/
structure BoolPost (w : World) (e : Ending) (w' : World) : Prop where
  res : SomeBool e
  low : Below w.heap.size w w'
theorem SomeBool.mk (b : Bool) : SomeBool (.returned (.bool b)) := ⟨b, rfl⟩
/-- Numbers from 1 on, attributes of unlike names. -/
def GoodSeats (w : World) (B : Nat) (S : List Seat) : Prop := (∀ s ∈ S, 1 ≤ s.id) ∧ ∀ s ∈ S, ∀ N L, FieldsAt w B s.aa s.an N L → ∀ i j, i < j → j < s.an → (N i).toList ≠ (N j).toList
theorem GoodSeats.nil (w : World) (B : Nat) : GoodSeats w B [] := by constructor <;> simp
theorem Flat.len {w : World} {B : Nat} {v : Value} {row : Int} {S : List Seat} (h : Flat w B v row S) : ∀ a n c, v = .slice a n c → n ≤ 1152921504606846976 := by
  cases h with
  | mk ao b o n cap row N F hn => intro a m c e; injection e with _ e _; omega
theorem GoodSeats.append {w : World} {B : Nat} {S T : List Seat} (h : GoodSeats w B S) (k : GoodSeats w B T) : GoodSeats w B (S ++ T) :=
  ⟨fun s hs => (List.mem_append.1 hs).elim (h.1 s) (k.1 s), fun s hs => (List.mem_append.1 hs).elim (h.2 s) (k.2 s)⟩
theorem GoodSeats.cons {w : World} {B : Nat} {s : Seat} {T : List Seat} (h1 : 1 ≤ s.id) (h2 : ∀ N L, FieldsAt w B s.aa s.an N L → ∀ i j, i < j → j < s.an → (N i).toList ≠ (N j).toList) (k : GoodSeats w B T) : GoodSeats w B (s :: T) :=
  ⟨fun x hx => (List.mem_cons.1 hx).elim (fun e => by subst e; exact h1) (k.1 x), fun x hx => (List.mem_cons.1 hx).elim (fun e => by subst e; exact h2) (k.2 x)⟩
/-- Names are what memory says. -/
theorem FieldsAt.name {w : World} {B : Nat} {ao : Option Addr} {n : Nat} {N N' : Nat → ByteArray} {L L' : Nat → Val} (h : FieldsAt w B ao n N L) (k : FieldsAt w B ao n N' L') (i : Nat) (hi : i < n) : N i = N' i := by
  obtain ⟨b, o, e1, _, e3⟩ := h.at_ (by omega)
  obtain ⟨b', o', f1, _, f3⟩ := k.at_ (by omega)
  rw [e1] at f1
  injection f1 with f1
  injection f1 with f1 f2
  subst f1 f2
  have := (e3 i hi 0 (by omega)).symm.trans (f3 i hi 0 (by omega))
  simpa [fieldCells] using this

theorem snoc_ind {α : Type} {P : List α → Prop} (l : List α) (nil : P []) (snoc : ∀ l x, P l → P (l ++ [x])) : P l := by
  have : ∀ r : List α, P r.reverse := fun r => by
    induction r with
    | nil => exact nil
    | cons a r ih => rw [List.reverse_cons]; exact snoc _ _ ih
  simpa using this l.reverse
def ids (S : List Seat) : List Int := S.map (·.id)
def marks (l : List Int) : DataW Value := setOf (.held (.bool true)) (l.map keyL)
theorem marks_nil : marks [] = .map [] := rfl
theorem marks_snoc (l : List Int) (x : Int) : marks (l ++ [x]) = (marks l).put (keyL x) (.held (.bool true)) := by unfold marks; rw [List.map_append]; exact setOf_snoc _ _ _
theorem marks_isMap (l : List Int) : IsMap (marks l) := by
  induction l using snoc_ind with
  | nil => exact isMap_empty
  | snoc l x ih => rw [marks_snoc]; exact ih.put _ _
theorem at_marks_out (k : Int) (z : DataW Value) (l : List Int) (h : k ∉ l) : (marks l).atKey (keyL k) z = z := by
  induction l using snoc_ind with
  | nil => rfl
  | snoc l x ih =>
    rw [List.mem_append, not_or] at h
    rw [marks_snoc, atKey_put_other (keyL_ne (fun e => h.2 (by simp [e])))]
    exact ih h.1
theorem at_marks_in (k : Int) (z : DataW Value) (l : List Int) (h : k ∈ l) : (marks l).atKey (keyL k) z = .held (.bool true) := by
  induction l using snoc_ind with
  | nil => cases h
  | snoc l x ih =>
    rw [marks_snoc]
    by_cases hk : x = k
    · subst hk; exact atKey_put_same (marks_isMap l) (isKeyL _) _ _
    · rw [atKey_put_other (keyL_ne (fun e => hk e.symm))]
      rcases List.mem_append.1 h with h | h
      · exact ih h
      · simp at h; exact absurd h.symm hk
theorem has_marks (k : Int) (l : List Int) : Maps.has (marks l) (keyL k) = decide (k ∈ l) := by
  induction l using snoc_ind with
  | nil => rfl
  | snoc l x ih =>
    rw [marks_snoc]
    by_cases hk : x = k
    · subst hk; rw [has_put_same (marks_isMap l) (isKeyL _)]; simp
    · rw [has_put_other (keyL_ne (fun e => hk e.symm)), ih]
      have : ¬ k = x := fun e => hk e.symm
      simp [this]
theorem tidy_marks (l : List Int) : Tidy (marks l) := tidy_setOf _ _ (fun x hx => by
  obtain ⟨y, _, rfl⟩ := List.mem_map.1 hx
  exact isKeyL y)
theorem size_marks (l : List Int) (h : l.Nodup) : Maps.size (marks l) = l.length := by
  induction l using snoc_ind with
  | nil => rfl
  | snoc l x ih =>
    rw [List.nodup_append] at h
    have hx : x ∉ l := fun hx => h.2.2 x hx x (by simp) rfl
    rw [marks_snoc, size_put (tidy_marks l), has_marks, if_neg (by simpa using hx), ih h.1, List.length_append]
    rfl
theorem zeroB (w : World) : (zeroValue 4).run Try.prog w = .ok (.bool false) w := by kernel_rfl
/-- A look-up in a map of marks. -/
theorem wpList_lookB (w : World) {ops : Array Oper} {rest : List Oper} {o : Oper} {a : Act} {Q : Exit → Act → World → Prop}
    (hg : o.guard = none) (m x : Operand) (hop : o.op = Op.lookup 23 m x false) (b n : Nat) (D : DataW Value)
    (hm : a.eval m = .map (some b)) (hown : w.ownsMap Try.prog 3 R b n D) (k : Int) (hx : a.eval x = .int .i64 k) (hwf : (Lit.int .i64 k).wf = true)
    (v : Value) (hat : D.atKey (keyL k) (.held (.bool false)) = .held v)
    (hK : wpList Try.prog ops Q rest (a.put o.dst v) w) : wpList Try.prog ops Q (o :: rest) a w := by
  refine wpList_plain hg fun K' hK' => ?_
  obtain ⟨v', ps, hrun, hv⟩ := hown.lookup law3 Try.underlying23 (zeroB w) (show R (.bool false) = some (.held (.bool false), []) from rfl) (keyOf_int_mk Try.underlying3 hwf)
  have e : v' = v := by
    unfold R at hv
    rw [show (D.atKey (.int .i64 k) (.held (.bool false))) = .held v from hat] at hv
    simp at hv
    exact hv.1
  subst e
  unfold Oper.wp
  simp [execOp, hop, hm, hx, hrun, Result.andThen]
  exact hK' _ _ hK
/-- The run of that look-up. -/
theorem run_lookB (w : World) (b n : Nat) (D : DataW Value) (hown : w.ownsMap Try.prog 3 R b n D) (k : Int) (hwf : (Lit.int .i64 k).wf = true) (v : Value) (hat : D.atKey (keyL k) (.held (.bool false)) = .held v) :
    (Instr.lookup 23 (.map (some b)) (.int .i64 k) false).run Try.prog w = .ok v w := by
  obtain ⟨v', ps, hrun, hv⟩ := hown.lookup law3 Try.underlying23 (zeroB w) (show R (.bool false) = some (.held (.bool false), []) from rfl) (keyOf_int_mk Try.underlying3 hwf)
  have e : v' = v := by
    unfold R at hv
    rw [show (D.atKey (.int .i64 k) (.held (.bool false))) = .held v from hat] at hv
    simp at hv
    exact hv.1
  rw [← e]; exact hrun

set_option maxHeartbeats 4000000 in
set_option maxRecDepth 100000 in
theorem plain_any (B : Nat) (v : Value) (row : Int) (S : List Seat) (w0 : World) (hF : Flat w0 B v row S) (hA : ∀ s ∈ S, AttrsAt w0 B s) : ∀ (w : World), Below B w0 w → B ≤ w.heap.size →
    Calls Try.prog 5 #[v] w fun e w' => BoolPost w e w' := by
  revert hA
  induction hF with
  | mk ao b o n cap row N F hn hao hc hrow hk ih =>
    intro hA w hb0 hBw
    replace hc := Lib.hid hc
    replace hrow := Lib.hid hrow
    replace ih := Lib.hid ih
    replace hb0 := Lib.hid hb0
    have hk' := Lib.hid hk
    clear hk
    replace hA := Lib.hid hA
    go_enter Try.func5, Try.ntmps5
    go_wp2_with fail
    go_loopw [3] (fun i wr => ∃ k : Nat, k ≤ n ∧ i = .int .i64 (k : Nat) ∧ Below w.heap.size w wr) (fun i _ => n - (intOf i).toNat)
    case atStart => exact ⟨0, Nat.zero_le _, rfl, Below.refl _ _⟩
    case round =>
      obtain ⟨k, hk, rfl, hb⟩ := hrel
      obtain ⟨wq, hwq⟩ : ∃ wq : World, wq = wr := ⟨_, rfl⟩
      subst hwq
      by_cases hlt : k < n
      · have hlt9 : Hid (k + 1 ≤ n) := hlt
        obtain ⟨rfl, hbB⟩ := hao (by omega)
        obtain ⟨s, hs⟩ : ∃ s, s = N k := ⟨_, rfl⟩
        have hmem : s ∈ (List.range n).flatMap fun i => N i :: F i := by rw [hs]; exact List.mem_flatMap.2 ⟨k, List.mem_range.2 hlt, List.mem_cons_self ..⟩
        have hsub : ∀ x ∈ F k, x ∈ (List.range n).flatMap fun i => N i :: F i := fun x hx => List.mem_flatMap.2 ⟨k, List.mem_range.2 hlt, List.mem_cons_of_mem _ hx⟩
        obtain ⟨AN, AL, hFA⟩ := hA.out s hmem
        have ihk := Lib.hid (ih.out k hlt (fun x hx => hA.out x (hsub x hx)))
        have hck := hc.out k hlt
        have hkn : s.kn ≤ 1152921504606846976 := by
          have := hk'.out k hlt
          rw [← hs] at this
          exact this.len _ _ _ rfl
        have han := hFA.le
        rw [← hs] at ihk hck
        have hbr : Below B w0 wq := hb0.out.trans (hb.mono hBw)
        have gc : ∀ j, j < 5 → wq.cell? ⟨b, o + (k * 5 + j), none⟩ = s.cells[j]? := fun j hj => (hbr.cell (p := ⟨b, o + (k * 5 + j), none⟩) hbB).trans (hck j hj)
        have x0 : wq.cell? ⟨b, o + k * 5, none⟩ = some (.int .i64 s.id) := gc 0 (by omega)
        have x1 : wq.cell? ⟨b, o + k * 5 + 1, none⟩ = some (.string s.tag) := by rw [Nat.add_assoc]; exact gc 1 (by omega)
        have x2 : wq.cell? ⟨b, o + k * 5 + 2, none⟩ = some (.string s.text) := by rw [Nat.add_assoc]; exact gc 2 (by omega)
        have x3 : wq.cell? ⟨b, o + k * 5 + 3, none⟩ = some (.slice s.aa s.an s.ac) := by rw [Nat.add_assoc]; exact gc 3 (by omega)
        have x4 : wq.cell? ⟨b, o + k * 5 + 4, none⟩ = some (.slice s.ka s.kn s.kc) := by rw [Nat.add_assoc]; exact gc 4 (by omega)
        obtain ⟨S2, hS2⟩ : ∃ S2, S2 = wq.alloc (.cells #[.int .i64 s.id, .string s.tag, .string s.text, .slice s.aa s.an s.ac, .slice s.ka s.kn s.kc] 32) := ⟨_, rfl⟩
        have hb2 : Below wq.heap.size wq S2 := by rw [hS2]; exact (Below.refl _ wq).alloc (Nat.le_refl _) _
        have hN2 : Hid (NodeRow S2 wq.heap.size s) := by rw [hS2]; exact heap_alloc_new wq _
        have hzS2 : S2.heap.size = wq.heap.size + 1 := by rw [hS2]; simp
        have hbw2 := Lib.hid (hb.trans (hb2.mono hb.size))
        have hb02 := Lib.hid (hbr.trans (hb2.mono (by have := hb.size; omega)))
        have hBT : B ≤ wq.heap.size := by have := hb.size; omega
        have hwT : w.heap.size ≤ wq.heap.size := by have := hb.size; omega
        obtain ⟨y0, y1, y2, y3, y4⟩ := hN2.out.cells
        have cI := ihk.out S2 hb02.out (by omega)
        replace cI := Lib.hid cI
        replace hS2 := Lib.hid hS2
        replace hs := Lib.hid hs
        replace hb := Lib.hid hb
        replace hb2 := Lib.hid hb2
        replace hbr := Lib.hid hbr
        replace hmem := Lib.hid hmem
        replace hsub := Lib.hid hsub
        replace hFA := Lib.hid hFA
        clear gc hck ihk
        unfold Seat.kids at cI
        by_cases hid : s.id < 1
        · go_wp2_with (first | (rw [← hS2.out]) | fail)
          go_ret
          exact ⟨SomeBool.mk _, hbw2.out⟩
        · by_cases htag : s.tag.toList = []
          · by_cases hsum : 0 < s.an + s.kn
            · have hsum' : decide ((0 : Int) < (s.an : Int) + (s.kn : Int)) = true := by simpa using (by omega : (0 : Int) < (s.an : Int) + (s.kn : Int))
              go_wp2_with (first | (rw [← hS2.out]) | fail)
              go_ret
              exact ⟨SomeBool.mk _, hbw2.out⟩
            · have hsum' : decide ((0 : Int) < (s.an : Int) + (s.kn : Int)) = false := by simpa using (by omega : ¬ (0 : Int) < (s.an : Int) + (s.kn : Int))
              go_wp2_with (first | (rw [← hS2.out]) | (go_at_call 5; refine cI.out.mono ?_))
              rintro e W3 ⟨⟨bb, rfl⟩, hb3⟩
              (try clear hsum hsum')
              have hzW3 := hb3.size
              have hw3 := Lib.hid (hbw2.out.trans (hb3.mono (by omega)))
              have hw3s : w.heap.size ≤ W3.heap.size := by omega
              have hb03 := Lib.hid (hb02.out.trans (hb3.mono (by omega)))
              have hBS : B ≤ W3.heap.size := by omega
              have hTl : wq.heap.size < W3.heap.size := by omega
              have hN : Hid (NodeRow W3 wq.heap.size s) := (hb3.block _ (by omega)).trans hN2.out
              clear hN2 hbw2 hb02 y0 y1 y2 y3 y4 x0 x1 x2 x3 x4
              obtain ⟨y0, y1, y2, y3, y4⟩ := hN.out.cells
              replace hb3 := Lib.hid hb3
              clear cI
              cases bb with
              | false =>
                go_wp2_with fail
                go_ret
                exact ⟨SomeBool.mk _, hw3.out⟩
              | true =>
                go_wp2_with fail
                go_loopw [5] (fun i wy => ∃ m : Nat, m ≤ s.an ∧ i = .int .i64 (m : Nat) ∧ (∀ i j, i < j → j < m → (AN i).toList ≠ (AN j).toList) ∧ Below W3.heap.size W3 wy) (fun i _ => s.an - (intOf i).toNat)
                case atStart => exact ⟨0, Nat.zero_le _, rfl, fun i j _ hj => by omega, Below.refl _ _⟩
                case round =>
                  obtain ⟨m, hm, rfl, hne, hby⟩ := hrel
                  obtain ⟨wo, hwo⟩ : ∃ wo : World, wo = wr := ⟨_, rfl⟩
                  subst hwo
                  have hNo : NodeRow wo wq.heap.size s := (hby.block _ hTl).trans hN.out
                  obtain ⟨p0, p1, p2, p3, p4⟩ := hNo.cells
                  replace hNo := Lib.hid hNo
                  replace hne := Lib.hid hne
                  have hzo := hby.size
                  by_cases hmlt : m < s.an
                  · have hmlt9 : Hid (m + 1 ≤ s.an) := hmlt
                    replace hby := Lib.hid hby
                    go_wp2_with fail
                    go_loopw [6] (fun i wy => ∃ q : Nat, q ≤ m ∧ i = .int .i64 (q : Nat) ∧ (∀ i, i < q → (AN i).toList ≠ (AN m).toList) ∧ Below wo.heap.size wo wy) (fun i _ => m - (intOf i).toNat)
                    case atStart => exact ⟨0, Nat.zero_le _, rfl, fun i hi => by omega, Below.refl _ _⟩
                    case round =>
                      obtain ⟨q, hq, rfl, hne2, hby2⟩ := hrel
                      have hNr : NodeRow wr wq.heap.size s := (hby2.block _ (by omega)).trans hNo.out
                      obtain ⟨p0, p1, p2, p3, p4⟩ := hNr.cells
                      replace hne2 := Lib.hid hne2
                      by_cases hqlt : q < m
                      · have hqlt9 : Hid (q + 1 ≤ m) := hqlt
                        have hFw := hFA.out.kept (hb03.out.trans ((hby.out.trans (hby2.mono hzo)).mono hBS))
                        obtain ⟨b9, o9, haa, hb9, hcF⟩ := hFw.at_ (by omega)
                        have x0 : wr.cell? ⟨b9, o9 + m * 9, none⟩ = some (.string (AN m)) := hcF m (by omega) 0 (by omega)
                        have y0 : wr.cell? ⟨b9, o9 + q * 9, none⟩ = some (.string (AN q)) := hcF q (by omega) 0 (by omega)
                        rw [haa] at p3
                        clear hcF
                        replace hFw := Lib.hid hFw
                        replace haa := Lib.hid haa
                        replace hby2 := Lib.hid hby2
                        by_cases heq : (AN q).toList = (AN m).toList
                        · have ht1 : ((AN m).toList == (AN q).toList) = true := by simp [heq]
                          have ht2 : ((AN q).toList == (AN m).toList) = true := by simp [heq]
                          replace heq := Lib.hid heq
                          go_wp2_with fail
                          go_quiet (fail)
                          go_wp2_with fail
                          go_ret
                          exact ⟨SomeBool.mk _, hw3.out.trans ((hby.out.trans ((below_drewN hby2.out _).mono hzo)).mono hw3s)⟩
                        · have ht1 : ((AN m).toList == (AN q).toList) = false := by simpa using fun e => heq e.symm
                          have ht2 : ((AN q).toList == (AN m).toList) = false := by simpa using heq
                          replace heq := Lib.hid heq
                          go_wp2_with fail
                          go_quiet (fail)
                          go_wp2_with fail
                          (try rw [← haa.out])
                          go_roundw
                          case rel =>
                            refine ⟨q + 1, hqlt9.out, by go_num, fun i hi => ?_, below_drewN hby2.out _⟩
                            rcases Nat.lt_succ_iff_lt_or_eq.1 hi with h | h
                            · exact hne2.out i h
                            · subst h; exact heq.out
                          case measure => simp [intOf]; have := hqlt9.out; omega
                      · obtain rfl : q = m := by omega
                        replace hby2 := Lib.hid hby2
                        go_wp2_with fail
                        go_roundw
                        case rel =>
                          refine ⟨q + 1, hmlt9.out, by go_num, fun i j hij hj => ?_, hby.out.trans (hby2.out.mono hzo)⟩
                          rcases Nat.lt_succ_iff_lt_or_eq.1 hj with h | h
                          · exact hne.out i j hij h
                          · subst h; exact hne2.out i hij
                        case measure => simp [intOf]; have := hmlt9.out; omega
                  · obtain rfl : m = s.an := by omega
                    replace hby := Lib.hid hby
                    go_wp2_with fail
                    go_roundw
                    case rel => exact ⟨k + 1, hlt9.out, by go_num, hw3.out.trans (hby.out.mono hw3s)⟩
                    case measure => simp [intOf]; have := hlt9.out; omega
          · have htg : s.tag.toList.isEmpty = false := by simpa using htag
            go_wp2_with (first | (rw [← hS2.out]) | (go_at_call 5; refine cI.out.mono ?_))
            rintro e W3 ⟨⟨bb, rfl⟩, hb3⟩
            (try clear hsum hsum')
            have hzW3 := hb3.size
            have hw3 := Lib.hid (hbw2.out.trans (hb3.mono (by omega)))
            have hw3s : w.heap.size ≤ W3.heap.size := by omega
            have hb03 := Lib.hid (hb02.out.trans (hb3.mono (by omega)))
            have hBS : B ≤ W3.heap.size := by omega
            have hTl : wq.heap.size < W3.heap.size := by omega
            have hN : Hid (NodeRow W3 wq.heap.size s) := (hb3.block _ (by omega)).trans hN2.out
            clear hN2 hbw2 hb02 y0 y1 y2 y3 y4 x0 x1 x2 x3 x4
            obtain ⟨y0, y1, y2, y3, y4⟩ := hN.out.cells
            replace hb3 := Lib.hid hb3
            clear cI
            cases bb with
            | false =>
              go_wp2_with fail
              go_ret
              exact ⟨SomeBool.mk _, hw3.out⟩
            | true =>
              go_wp2_with fail
              go_loopw [5] (fun i wy => ∃ m : Nat, m ≤ s.an ∧ i = .int .i64 (m : Nat) ∧ (∀ i j, i < j → j < m → (AN i).toList ≠ (AN j).toList) ∧ Below W3.heap.size W3 wy) (fun i _ => s.an - (intOf i).toNat)
              case atStart => exact ⟨0, Nat.zero_le _, rfl, fun i j _ hj => by omega, Below.refl _ _⟩
              case round =>
                obtain ⟨m, hm, rfl, hne, hby⟩ := hrel
                obtain ⟨wo, hwo⟩ : ∃ wo : World, wo = wr := ⟨_, rfl⟩
                subst hwo
                have hNo : NodeRow wo wq.heap.size s := (hby.block _ hTl).trans hN.out
                obtain ⟨p0, p1, p2, p3, p4⟩ := hNo.cells
                replace hNo := Lib.hid hNo
                replace hne := Lib.hid hne
                have hzo := hby.size
                by_cases hmlt : m < s.an
                · have hmlt9 : Hid (m + 1 ≤ s.an) := hmlt
                  replace hby := Lib.hid hby
                  go_wp2_with fail
                  go_loopw [6] (fun i wy => ∃ q : Nat, q ≤ m ∧ i = .int .i64 (q : Nat) ∧ (∀ i, i < q → (AN i).toList ≠ (AN m).toList) ∧ Below wo.heap.size wo wy) (fun i _ => m - (intOf i).toNat)
                  case atStart => exact ⟨0, Nat.zero_le _, rfl, fun i hi => by omega, Below.refl _ _⟩
                  case round =>
                    obtain ⟨q, hq, rfl, hne2, hby2⟩ := hrel
                    have hNr : NodeRow wr wq.heap.size s := (hby2.block _ (by omega)).trans hNo.out
                    obtain ⟨p0, p1, p2, p3, p4⟩ := hNr.cells
                    replace hne2 := Lib.hid hne2
                    by_cases hqlt : q < m
                    · have hqlt9 : Hid (q + 1 ≤ m) := hqlt
                      have hFw := hFA.out.kept (hb03.out.trans ((hby.out.trans (hby2.mono hzo)).mono hBS))
                      obtain ⟨b9, o9, haa, hb9, hcF⟩ := hFw.at_ (by omega)
                      have x0 : wr.cell? ⟨b9, o9 + m * 9, none⟩ = some (.string (AN m)) := hcF m (by omega) 0 (by omega)
                      have y0 : wr.cell? ⟨b9, o9 + q * 9, none⟩ = some (.string (AN q)) := hcF q (by omega) 0 (by omega)
                      rw [haa] at p3
                      clear hcF
                      replace hFw := Lib.hid hFw
                      replace haa := Lib.hid haa
                      replace hby2 := Lib.hid hby2
                      by_cases heq : (AN q).toList = (AN m).toList
                      · have ht1 : ((AN m).toList == (AN q).toList) = true := by simp [heq]
                        have ht2 : ((AN q).toList == (AN m).toList) = true := by simp [heq]
                        replace heq := Lib.hid heq
                        go_wp2_with fail
                        go_quiet (fail)
                        go_wp2_with fail
                        go_ret
                        exact ⟨SomeBool.mk _, hw3.out.trans ((hby.out.trans ((below_drewN hby2.out _).mono hzo)).mono hw3s)⟩
                      · have ht1 : ((AN m).toList == (AN q).toList) = false := by simpa using fun e => heq e.symm
                        have ht2 : ((AN q).toList == (AN m).toList) = false := by simpa using heq
                        replace heq := Lib.hid heq
                        go_wp2_with fail
                        go_quiet (fail)
                        go_wp2_with fail
                        (try rw [← haa.out])
                        go_roundw
                        case rel =>
                          refine ⟨q + 1, hqlt9.out, by go_num, fun i hi => ?_, below_drewN hby2.out _⟩
                          rcases Nat.lt_succ_iff_lt_or_eq.1 hi with h | h
                          · exact hne2.out i h
                          · subst h; exact heq.out
                        case measure => simp [intOf]; have := hqlt9.out; omega
                    · obtain rfl : q = m := by omega
                      replace hby2 := Lib.hid hby2
                      go_wp2_with fail
                      go_roundw
                      case rel =>
                        refine ⟨q + 1, hmlt9.out, by go_num, fun i j hij hj => ?_, hby.out.trans (hby2.out.mono hzo)⟩
                        rcases Nat.lt_succ_iff_lt_or_eq.1 hj with h | h
                        · exact hne.out i j hij h
                        · subst h; exact hne2.out i hij
                      case measure => simp [intOf]; have := hmlt9.out; omega
                · obtain rfl : m = s.an := by omega
                  replace hby := Lib.hid hby
                  go_wp2_with fail
                  go_roundw
                  case rel => exact ⟨k + 1, hlt9.out, by go_num, hw3.out.trans (hby.out.mono hw3s)⟩
                  case measure => simp [intOf]; have := hlt9.out; omega
      · obtain rfl : k = n := by omega
        go_wp2_with fail
        go_ret
        exact ⟨SomeBool.mk _, hb⟩

theorem low_none {a b : World} (h : Below a.heap.size a b) : a.grownBy b none := ⟨h.os, h.tape, h.output, h.size, fun k hk _ => h.block k hk⟩
def nilS : Value := .slice none 0 0
def MarkedAt (w0 : World) (B bm : Nat) (done : List Int) (S : List Seat) (w' : World) : Prop :=
  w'.ownsMap Try.prog 3 R bm (done ++ ids S).length (marks (done ++ ids S)) ∧ (done ++ ids S).Nodup ∧ GoodSeats w0 B S
structure UnlikePost (w0 : World) (B bm : Nat) (done : List Int) (S : List Seat) (w : World) (e : Ending) (w' : World) : Prop where
  turn : Turn w w' bm nilS nilS
  res : e = .returned (.bool false) ∨ (e = .returned (.bool true) ∧ MarkedAt w0 B bm done S w')
theorem ids_pre_succ (N : Nat → Seat) (F : Nat → List Seat) (k : Nat) (done : List Int) : done ++ ids (pre N F (k + 1)) = (done ++ ids (pre N F k) ++ [(N k).id]) ++ ids (F k) := by
  simp [ids, pre_succ]

set_option maxHeartbeats 4000000 in
set_option maxRecDepth 100000 in
theorem unlike_any (B : Nat) (v : Value) (row : Int) (S : List Seat) (w0 : World) (hF : Flat w0 B v row S) (hA : ∀ s ∈ S, AttrsAt w0 B s) : ∀ (bm : Nat) (done : List Int) (w : World), Below B w0 w → B ≤ bm → B ≤ w.heap.size →
    w.ownsMap Try.prog 3 R bm done.length (marks done) → done.Nodup → done.length + S.length ≤ 1048576 →
    Calls Try.prog 4 #[v, .map (some bm)] w fun e w' => UnlikePost w0 B bm done S w e w' := by
  revert hA
  induction hF with
  | mk ao b o n cap row N F hn hao hc hrow hk ih =>
    intro hA bm done w hb0 hBm hBw hown hnd hL
    change done.length + (pre N F n).length ≤ 1048576 at hL
    change Calls _ _ _ _ fun e w' => UnlikePost w0 B bm done (pre N F n) w e w'
    replace hc := Lib.hid hc
    replace hrow := Lib.hid hrow
    replace ih := Lib.hid ih
    replace hb0 := Lib.hid hb0
    replace hA := Lib.hid hA
    replace hown := Lib.hid hown
    replace hnd := Lib.hid hnd
    clear hk
    go_enter Try.func4, Try.ntmps4
    go_wp2_with fail
    go_loopw [5] (fun i wr => ∃ k : Nat, k ≤ n ∧ i = .int .i64 (k : Nat) ∧ MarkedAt w0 B bm done (pre N F k) wr ∧ Turn w wr bm nilS nilS) (fun i _ => n - (intOf i).toNat)
    case atStart => exact ⟨0, Nat.zero_le _, rfl, ⟨by simpa [pre, ids] using hown.out, by simpa [pre, ids] using hnd.out, GoodSeats.nil _ _⟩, Turn.refl _ _ _⟩
    case round =>
      obtain ⟨k, hk, rfl, ⟨hma, hmn, hmg⟩, ht⟩ := hrel
      obtain ⟨wq, hwq⟩ : ∃ wq : World, wq = wr := ⟨_, rfl⟩
      subst hwq
      by_cases hlt : k < n
      · have hlt9 : Hid (k + 1 ≤ n) := hlt
        obtain ⟨rfl, hbB⟩ := hao (by omega)
        obtain ⟨s, hs⟩ : ∃ s, s = N k := ⟨_, rfl⟩
        have hmem : s ∈ (List.range n).flatMap fun i => N i :: F i := by rw [hs]; exact List.mem_flatMap.2 ⟨k, List.mem_range.2 hlt, List.mem_cons_self ..⟩
        have hsub : ∀ x ∈ F k, x ∈ (List.range n).flatMap fun i => N i :: F i := fun x hx => List.mem_flatMap.2 ⟨k, List.mem_range.2 hlt, List.mem_cons_of_mem _ hx⟩
        obtain ⟨AN, AL, hFA⟩ := hA.out s hmem
        have ihk := Lib.hid (ih.out k hlt (fun x hx => hA.out x (hsub x hx)))
        have hck := hc.out k hlt
        obtain ⟨_, _, hgs⟩ := hrow.out k hlt
        have han := hFA.le
        obtain ⟨r, hr⟩ := pre_le N F (show k + 1 ≤ n by omega)
        have hln : (pre N F n).length = (pre N F (k + 1)).length + r.length := by rw [hr, List.length_append]
        have hlk : (pre N F (k + 1)).length = (pre N F k).length + ((F k).length + 1) := by rw [pre_succ, List.length_append, List.length_cons]
        have hlJ : (done ++ ids (pre N F k)).length = done.length + (pre N F k).length := by simp [ids]
        rw [← hs] at ihk hck hgs
        have hJs := ids_pre_succ N F k done
        rw [← hs] at hJs
        have hpr := pre_succ N F k
        rw [← hs] at hpr
        have hwz := ht.size
        have hbr : Below B w0 wq := hb0.out.trans (ht.toBelow hBm (fun k hk => by simp [nilS, Value.ownBlock] at hk) hBw)
        have gc : ∀ j, j < 5 → wq.cell? ⟨b, o + (k * 5 + j), none⟩ = s.cells[j]? := fun j hj => (hbr.cell (p := ⟨b, o + (k * 5 + j), none⟩) hbB).trans (hck j hj)
        have x0 : wq.cell? ⟨b, o + k * 5, none⟩ = some (.int .i64 s.id) := gc 0 (by omega)
        have x1 : wq.cell? ⟨b, o + k * 5 + 1, none⟩ = some (.string s.tag) := by rw [Nat.add_assoc]; exact gc 1 (by omega)
        have x2 : wq.cell? ⟨b, o + k * 5 + 2, none⟩ = some (.string s.text) := by rw [Nat.add_assoc]; exact gc 2 (by omega)
        have x3 : wq.cell? ⟨b, o + k * 5 + 3, none⟩ = some (.slice s.aa s.an s.ac) := by rw [Nat.add_assoc]; exact gc 3 (by omega)
        have x4 : wq.cell? ⟨b, o + k * 5 + 4, none⟩ = some (.slice s.ka s.kn s.kc) := by rw [Nat.add_assoc]; exact gc 4 (by omega)
        obtain ⟨S2, hS2⟩ : ∃ S2, S2 = wq.alloc (.cells #[.int .i64 s.id, .string s.tag, .string s.text, .slice s.aa s.an s.ac, .slice s.ka s.kn s.kc] 32) := ⟨_, rfl⟩
        have hb2 : Below wq.heap.size wq S2 := by rw [hS2]; exact (Below.refl _ wq).alloc (Nat.le_refl _) _
        have hN2 : Hid (NodeRow S2 wq.heap.size s) := by rw [hS2]; exact heap_alloc_new wq _
        have hzS2 : S2.heap.size = wq.heap.size + 1 := by rw [hS2]; simp
        have ht2 := Lib.hid (ht.trans (Turn.below hb2))
        have hma2 : Hid (S2.ownsMap Try.prog 3 R bm (done ++ ids (pre N F k)).length (marks (done ++ ids (pre N F k)))) := hma.kept (low_none hb2) (by simp)
        have hbmlt := hma.lt
        obtain ⟨y0, y1, y2, y3, y4⟩ := hN2.out.cells
        replace hS2 := Lib.hid hS2
        replace hs := Lib.hid hs
        replace hb2 := Lib.hid hb2
        replace hbr := Lib.hid hbr
        replace hmem := Lib.hid hmem
        replace hsub := Lib.hid hsub
        replace hFA := Lib.hid hFA
        replace hr := Lib.hid hr
        replace hma := Lib.hid hma
        replace hmn := Lib.hid hmn
        replace hmg := Lib.hid hmg
        replace ht := Lib.hid ht
        replace hJs := Lib.hid hJs
        replace hpr := Lib.hid hpr
        clear gc hck
        by_cases hid : s.id < 1
        · go_wp2_with (first | (rw [← hS2.out]) | fail)
          go_ret
          exact ⟨ht2.out, .inl rfl⟩
        · by_cases hin : s.id ∈ done ++ ids (pre N F k)
          · have hlk := run_lookB S2 bm _ _ hma2.out s.id hgs (.bool true) (at_marks_in _ _ _ hin)
            replace hin := Lib.hid hin
            go_wp2_with (first | (rw [← hS2.out]) | fail)
            go_ret
            exact ⟨ht2.out, .inl rfl⟩
          · have hlk := run_lookB S2 bm _ _ hma2.out s.id hgs (.bool false) (at_marks_out _ _ _ hin)
            replace hin := Lib.hid hin
            go_wp2_with (first | (rw [← hS2.out]) | (at_mapUpdate; refine wpList_mapUpdate_own _ rfl _ _ _ 23 rfl 3 4 law3 Try.underlying23 R bm _ _ rfl hma2.out (by unfold maxLen; omega) _ _ (keyL s.id) rfl rfl (keyOf_int_mk Try.underlying3 hgs) (.held (.bool true)) [] rfl ?_) | fail)
            intro w3 hown3 hgrow3
            rw [← marks_snoc] at hown3
            have hz3 := hgrow3.size
            have hN : Hid (NodeRow w3 wq.heap.size s) := (hgrow3.block wq.heap.size (by omega) (fun e => by injection e with e; omega)).trans hN2.out
            have ht3 : Hid (Turn w w3 bm nilS nilS) := ht2.out.trans (Turn.map hgrow3)
            have hb03 : Hid (Below B w0 w3) := hb0.out.trans (ht3.out.toBelow hBm (fun k hk => by simp [nilS, Value.ownBlock] at hk) hBw)
            have hBS : B ≤ w3.heap.size := by omega
            have hTl : wq.heap.size < w3.heap.size := by omega
            have hown3' : Hid (w3.ownsMap Try.prog 3 R bm (done ++ ids (pre N F k) ++ [s.id]).length (marks (done ++ ids (pre N F k) ++ [s.id]))) := by
              rw [List.length_append, hlJ]; exact hown3
            clear hown3 hgrow3 hN2 y0 y1 y2 y3 y4 x0 x1 x2 x3 x4 hlk
            obtain ⟨y0, y1, y2, y3, y4⟩ := hN.out.cells
            go_wp2_with fail
            go_loopw [7] (fun i wy => ∃ m : Nat, m ≤ s.an ∧ i = .int .i64 (m : Nat) ∧ (∀ i j, i < j → j < m → (AN i).toList ≠ (AN j).toList) ∧ Below w3.heap.size w3 wy) (fun i _ => s.an - (intOf i).toNat)
            case atStart => exact ⟨0, Nat.zero_le _, rfl, fun i j _ hj => by omega, Below.refl _ _⟩
            case round =>
              obtain ⟨m, hm, rfl, hne, hby⟩ := hrel
              obtain ⟨wo, hwo⟩ : ∃ wo : World, wo = wr := ⟨_, rfl⟩
              subst hwo
              have hNo : NodeRow wo wq.heap.size s := (hby.block _ hTl).trans hN.out
              obtain ⟨p0, p1, p2, p3, p4⟩ := hNo.cells
              replace hNo := Lib.hid hNo
              replace hne := Lib.hid hne
              have hzo := hby.size
              by_cases hmlt : m < s.an
              · have hmlt9 : Hid (m + 1 ≤ s.an) := hmlt
                replace hby := Lib.hid hby
                go_wp2_with fail
                go_loopw [8] (fun i wy => ∃ q : Nat, q ≤ m ∧ i = .int .i64 (q : Nat) ∧ (∀ i, i < q → (AN i).toList ≠ (AN m).toList) ∧ Below wo.heap.size wo wy) (fun i _ => m - (intOf i).toNat)
                case atStart => exact ⟨0, Nat.zero_le _, rfl, fun i hi => by omega, Below.refl _ _⟩
                case round =>
                  obtain ⟨q, hq, rfl, hne2, hby2⟩ := hrel
                  have hNr : NodeRow wr wq.heap.size s := (hby2.block _ (by omega)).trans hNo.out
                  obtain ⟨p0, p1, p2, p3, p4⟩ := hNr.cells
                  replace hne2 := Lib.hid hne2
                  by_cases hqlt : q < m
                  · have hqlt9 : Hid (q + 1 ≤ m) := hqlt
                    have hFw := hFA.out.kept (hb03.out.trans ((hby.out.trans (hby2.mono hzo)).mono hBS))
                    obtain ⟨b9, o9, haa, hb9, hcF⟩ := hFw.at_ (by omega)
                    have x0 : wr.cell? ⟨b9, o9 + m * 9, none⟩ = some (.string (AN m)) := hcF m (by omega) 0 (by omega)
                    have y0 : wr.cell? ⟨b9, o9 + q * 9, none⟩ = some (.string (AN q)) := hcF q (by omega) 0 (by omega)
                    rw [haa] at p3
                    clear hcF
                    replace hFw := Lib.hid hFw
                    replace haa := Lib.hid haa
                    replace hby2 := Lib.hid hby2
                    by_cases heq : (AN q).toList = (AN m).toList
                    · have ht1 : ((AN m).toList == (AN q).toList) = true := by simp [heq]
                      have ht2 : ((AN q).toList == (AN m).toList) = true := by simp [heq]
                      replace heq := Lib.hid heq
                      go_wp2_with fail
                      go_quiet (fail)
                      go_wp2_with fail
                      go_ret
                      exact ⟨ht3.out.trans (Turn.below (hby.out.trans ((below_drewN hby2.out _).mono hzo))), .inl rfl⟩
                    · have ht1 : ((AN m).toList == (AN q).toList) = false := by simpa using fun e => heq e.symm
                      have ht2 : ((AN q).toList == (AN m).toList) = false := by simpa using heq
                      replace heq := Lib.hid heq
                      go_wp2_with fail
                      go_quiet (fail)
                      go_wp2_with fail
                      (try rw [← haa.out])
                      go_roundw
                      case rel =>
                        refine ⟨q + 1, hqlt9.out, by go_num, fun i hi => ?_, below_drewN hby2.out _⟩
                        rcases Nat.lt_succ_iff_lt_or_eq.1 hi with h | h
                        · exact hne2.out i h
                        · subst h; exact heq.out
                      case measure => simp [intOf]; have := hqlt9.out; omega
                  · obtain rfl : q = m := by omega
                    replace hby2 := Lib.hid hby2
                    go_wp2_with fail
                    go_roundw
                    case rel =>
                      refine ⟨q + 1, hmlt9.out, by go_num, fun i j hij hj => ?_, hby.out.trans (hby2.out.mono hzo)⟩
                      rcases Nat.lt_succ_iff_lt_or_eq.1 hj with h | h
                      · exact hne.out i j hij h
                      · subst h; exact hne2.out i hij
                    case measure => simp [intOf]; have := hmlt9.out; omega
              · obtain rfl : m = s.an := by omega
                have hbz : Below w3.heap.size w3 wo := hby
                have hzz := hbz.size
                have hbB9 := hb03.out.trans (hbz.mono hBS)
                have hownz := hown3'.out.kept (low_none hbz) (by simp)
                have hndz : (done ++ ids (pre N F k) ++ [s.id]).Nodup := by
                  rw [List.nodup_append]
                  exact ⟨hmn.out, by simp, fun x hx y hy e => by simp at hy; rw [e, hy] at hx; exact hin.out hx⟩
                have cI := ihk.out bm (done ++ ids (pre N F k) ++ [s.id]) wo hbB9 hBm (by omega) hownz hndz (by rw [List.length_append, hlJ]; simp; omega)
                have htz := Lib.hid (ht3.out.trans (Turn.below hbz))
                replace cI := Lib.hid cI
                replace hne := Lib.hid hne
                replace hbz := Lib.hid hbz
                replace hby := Lib.hid hby
                clear hbB9 hownz hndz
                unfold Seat.kids at cI
                go_wp2_with (go_at_call 4; refine cI.out.mono ?_)
                rintro e W5 ⟨ht5, hres5⟩
                have ht95 := Lib.hid (htz.out.trans ht5)
                clear ht5 cI
                rcases hres5 with rfl | ⟨rfl, hm5⟩
                · go_wp2_with fail
                  go_ret
                  exact ⟨ht95.out, .inl rfl⟩
                · obtain ⟨hm5, hn5, hg5⟩ := hm5
                  rw [← hJs.out] at hm5 hn5
                  replace hm5 := Lib.hid hm5
                  replace hn5 := Lib.hid hn5
                  replace hg5 := Lib.hid hg5
                  go_wp2_with fail
                  go_roundw
                  case rel =>
                    refine ⟨k + 1, hlt9.out, by go_num, ⟨hm5.out, hn5.out, ?_⟩, ht95.out⟩
                    rw [hpr.out]
                    refine GoodSeats.append hmg.out (GoodSeats.cons (by omega) (fun N' L' hF' i j hij hj => ?_) hg5.out)
                    rw [← hFA.out.name hF' i (by omega), ← hFA.out.name hF' j hj]
                    exact hne.out i j hij hj
                  case measure => simp [intOf]; have := hlt9.out; omega
      · obtain rfl : k = n := by omega
        replace ht := Lib.hid ht
        replace hma := Lib.hid hma
        replace hmn := Lib.hid hmn
        go_wp2_with fail
        go_ret
        exact ⟨ht.out, .inr ⟨rfl, hma.out, hmn.out, hmg⟩⟩
end Go.Proofs.Ytehcbicngbibgaa
