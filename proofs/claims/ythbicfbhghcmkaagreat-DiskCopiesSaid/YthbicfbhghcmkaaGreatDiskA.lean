/-
  The disk's methods, one by one: what each call does to a disk in memory (may, crash, latest, New, Sectors, Down, Arm).
-/
import Derived.Test.YthbicfbhghcmkaaGreatMap
import Derived.Test.YthbicfbhghcmkaaGreatRows
import Derived.Deep.QuietTactic
import Derived.BigQuiet
namespace Go.Proofs.YthbicfbhghcmkaaGreat
open Go Go.RowKit Go.SM

/-- what a disk is -/
structure DS where
  n : Int
  fs : Int → Option (List UInt8)
  fo : Int → Option (List UInt8)
  armed : Int
  down : Bool

def dkCells (ms mo : Nat) (s : DS) : Array Value := #[.int .i64 s.n, .map (some ms), .map (some mo), .int .i64 s.armed, .bool s.down]

structure DkAt (w : World) (b ms mo : Nat) (s : DS) : Prop where
  cells : w.heap[b]? = some (.cells (dkCells ms mo s) 48 (0, 0))
  safe : MapIs w ms s.fs
  opens : MapIs w mo s.fo
  ne : ms ≠ mo ∧ b ≠ ms ∧ b ≠ mo
  n1 : 1 ≤ s.n ∧ s.n ≤ 8192
  arm : 0 ≤ s.armed ∧ s.armed ≤ 9223372036854775807

def dkOwn (b ms mo : Nat) : Nat → Prop := fun r => r = b ∨ r = ms ∨ r = mo

theorem DkAt.keep {w w' : World} {S : Nat → Prop} {b ms mo : Nat} {s : DS} (h : DkAt w b ms mo s) (hm : Mod S w w') (hn : ∀ r, dkOwn b ms mo r → ¬ S r) : DkAt w' b ms mo s :=
  ⟨hm.get h.cells (hn b (.inl rfl)), h.safe.keep hm (hn ms (.inr (.inl rfl))), h.opens.keep hm (hn mo (.inr (.inr rfl))), h.ne, h.n1, h.arm⟩

theorem DkAt.own_lt {w : World} {b ms mo : Nat} {s : DS} (h : DkAt w b ms mo s) : ∀ r, dkOwn b ms mo r → r < w.heap.size := by
  rintro r (rfl | rfl | rfl)
  · exact (Array.getElem?_eq_some_iff.1 h.cells).1
  · exact h.safe.lt
  · exact h.opens.lt

section
variable {w : World} {b ms mo : Nat} {s : DS}
theorem DkAt.c0 (h : DkAt w b ms mo s) : w.cell? ⟨b, 0, none⟩ = some (.int .i64 s.n) := by rw [cell_of_row w b 0 _ _ _ h.cells]; rfl
theorem DkAt.c1 (h : DkAt w b ms mo s) : w.cell? ⟨b, 1, none⟩ = some (.map (some ms)) := by rw [cell_of_row w b 1 _ _ _ h.cells]; rfl
theorem DkAt.c2 (h : DkAt w b ms mo s) : w.cell? ⟨b, 2, none⟩ = some (.map (some mo)) := by rw [cell_of_row w b 2 _ _ _ h.cells]; rfl
theorem DkAt.c3 (h : DkAt w b ms mo s) : w.cell? ⟨b, 3, none⟩ = some (.int .i64 s.armed) := by rw [cell_of_row w b 3 _ _ _ h.cells]; rfl
theorem DkAt.c4 (h : DkAt w b ms mo s) : w.cell? ⟨b, 4, none⟩ = some (.bool s.down) := by rw [cell_of_row w b 4 _ _ _ h.cells]; rfl
theorem DkAt.fz (h : DkAt w b ms mo s) (i : Nat) : w.frozen? ⟨b, i, none⟩ = false := frozen_of_row w b i _ _ h.cells
end

/-- why nothing can be done with a sector -/
def mayE (s : DS) (n : Int) : Int := if s.down then 8 else if n < 0 ∨ s.n ≤ n then 6 else 0

theorem may_nil (n : Int) (w : World) : Calls Tryz.prog 36 #[.pointer none, .int .i64 n] w fun e w' => e = .returned (.int .i64 1) ∧ w = w' := by
  go_enter Tryz.func36, Tryz.ntmps36
  go_wp2
  go_ret
  exact ⟨rfl, rfl⟩

theorem may_any {w : World} {b ms mo : Nat} {s : DS} (h : DkAt w b ms mo s) (n : Int) :
    Calls Tryz.prog 36 #[.pointer (some ⟨b, 0, none⟩), .int .i64 n] w fun e w' => e = .returned (.int .i64 (mayE s n)) ∧ w = w' := by
  have h0 := h.c0
  have h4 := h.c4
  have hN : (s.n == 0) = false := by have := h.n1; rw [beq_eq_false_iff_ne]; omega
  obtain ⟨sn, sf, so, sa, sd⟩ := s
  simp only at h0 h4 hN
  clear h
  cases sd with
  | true =>
    go_enter Tryz.func36, Tryz.ntmps36
    go_wp2
    go_ret
    exact ⟨rfl, rfl⟩
  | false =>
    by_cases hn : n < 0
    · have e1 : mayE ⟨sn, sf, so, sa, false⟩ n = 6 := by simp [mayE, hn]
      have d1 : decide (n < 0) = true := by simpa using hn
      rw [e1]
      clear e1
      go_enter Tryz.func36, Tryz.ntmps36
      go_wp2
      go_ret
      exact ⟨rfl, rfl⟩
    · have d1 : decide (n < 0) = false := by simpa using hn
      by_cases hm : sn ≤ n
      · have e1 : mayE ⟨sn, sf, so, sa, false⟩ n = 6 := by simp [mayE, hm]
        have d2 : decide (sn ≤ n) = true := by simpa using hm
        rw [e1]
        clear e1
        go_enter Tryz.func36, Tryz.ntmps36
        go_wp2
        go_ret
        exact ⟨rfl, rfl⟩
      · have e1 : mayE ⟨sn, sf, so, sa, false⟩ n = 0 := by simp [mayE]; omega
        have d2 : decide (sn ≤ n) = false := by simpa using hm
        rw [e1]
        clear e1
        go_enter Tryz.func36, Tryz.ntmps36
        go_wp2
        go_ret
        exact ⟨rfl, rfl⟩

end Go.Proofs.YthbicfbhghcmkaaGreat
