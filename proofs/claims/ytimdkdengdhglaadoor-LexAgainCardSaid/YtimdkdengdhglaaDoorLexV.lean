/- The contract of told: a word as text. -/
import Derived.Test.YtimdkdengdhglaaDoorLexU
import Derived.Test.YtimdkdengdhglaaDoorLexT
namespace Go.Proofs.YtimdkdengdhglaaDoor
open Go Go.RowKit

set_option maxHeartbeats 2000000 in
set_option maxRecDepth 100000 in
theorem told_any (x : Wd) (hx : Good x) (w : World) :
    Calls Tryd.prog 8 #[.agg #[.int .u8 (x.1 : Nat), .string (bs x.2.1), .int .i64 x.2.2.1, .int .i64 (x.2.2.2 : Nat)]] w fun e w' => e = .returned (.string (bs (toldL x))) ∧ Below w.heap.size w w' := by
  have hal : ∀ o, Below w.heap.size w (w.alloc o) := fun o => (Below.refl _ w).alloc (Nat.le_refl _) o
  replace hal := Lib.hid hal
  obtain ⟨k, s, n, ln⟩ := x
  simp only [Good] at hx
  rcases hx with ⟨rfl, rfl, rfl⟩ | ⟨rfl, rfl, rfl⟩ | ⟨rfl, rfl, h1, h2⟩ | ⟨rfl, rfl, h1⟩ | ⟨rfl, rfl, h1, h2, h3, h4⟩
  · go_enter Tryd.func8, Tryd.ntmps8
    go_wp2
    go_ret
    exact ⟨rfl, hal.out _⟩
  · go_enter Tryd.func8, Tryd.ntmps8
    go_wp2
    go_ret
    exact ⟨rfl, hal.out _⟩
  · have cD : Hid (∀ W, Calls Tryd.prog 9 #[.int .i64 n] W fun e w' => e = .returned (.string (bs (Lib.itoa n))) ∧ w' = W) := fun W => digits_any n W h1 h2
    go_enter Tryd.func8, Tryd.ntmps8
    go_wp2_with (go_at_call 9; refine (cD.out _).mono ?_; rintro e W2 ⟨rfl, rfl⟩)
    go_ret
    exact ⟨rfl, hal.out _⟩
  · have cQ : Hid (∀ W, Calls Tryd.prog 10 #[.string (bs s)] W fun e w' => e = .returned (.string (bs (quoteL s))) ∧ Below W.heap.size W w') := fun W => quoted_any s W (by omega)
    go_enter Tryd.func8, Tryd.ntmps8
    go_wp2_with (go_at_call 10; refine (cQ.out _).mono ?_)
    rintro e W2 ⟨rfl, hb⟩
    go_wp2
    go_ret
    exact ⟨rfl, (hal.out _).trans (hb.mono (by simp))⟩
  · go_enter Tryd.func8, Tryd.ntmps8
    go_wp2
    go_ret
    exact ⟨rfl, hal.out _⟩

/-- '[]byte(s)'. -/
theorem bytes_of (w : World) (l : List UInt8) : ∃ (cp : Nat) (C : Array Value), (convert 9 27 (.string (bs l))).run Tryd.prog w = .ok (.slice (some ⟨w.heap.size, 0, none⟩) l.length cp) (w.drew.alloc (.cells C 5 (C.size, C.size + 1))) ∧
    ∀ j (h : j < l.length), C[j]? = some (.int .u8 (l[j].toNat : Int)) := by
  have h := run_bytes_of_string (P := Tryd.prog) w 9 27 5 (bs l) Tryd.underlying9 Tryd.underlying27 Tryd.underlying5
  rw [bs_size] at h
  refine ⟨_, _, h, fun j hj => ?_⟩
  rw [bytesRow_at (bs l) _ j (by simpa [bs] using hj)]
  simp [bs]
theorem cells_new (w : World) (C : Array Value) (l : List UInt8) (t : TypeId) (fr : Nat × Nat) (h : ∀ j (h : j < l.length), C[j]? = some (.int .u8 (l[j].toNat : Int))) :
    ∀ j u, (Lib.byteCells l)[j]? = some u → (w.alloc (.cells C t fr)).drew.cell? ((⟨w.heap.size, 0, none⟩ : Addr).add j) = some u := by
  intro j u hu
  have hj : j < l.length := by
    have := (List.getElem?_eq_some_iff.1 hu).1
    simpa [Lib.byteCells] using this
  have e : (w.alloc (.cells C t fr)).drew.cell? ⟨w.heap.size, j, none⟩ = C[j]? := World.cell?_alloc_mark w C t fr j
  have e2 : (⟨w.heap.size, 0, none⟩ : Addr).add j = ⟨w.heap.size, j, none⟩ := by simp [Addr.add]; omega
  rw [e2, e, h j hj, ← hu]
  simp [Lib.byteCells, hj]
end Go.Proofs.YtimdkdengdhglaaDoor
