/-
  The laws' arguments as lists: fates, (first part: fates).
-/
import Derived.Test.YthbicfbhghcmkaaGreatOpen
import Derived.Test.YthbicfbhghcmkaaGreatDiskF
namespace Go.Proofs.YthbicfbhghcmkaaGreat
open Go Go.RowKit Go.SM Go.ChangeShapes Go.WideShapes Go.Deep

/-- blocks that are there -/
def Old (w : World) : Nat → Prop := fun r => r < w.heap.size

theorem fate_one : oneCellFields Tryz.prog #[⟨ "Sector", 3, 0, false, "", "", 0⟩] = true := by kernel_rfl
theorem fate_cells : Tryz.prog.cellsOf 56 = 1 := by kernel_rfl

section
variable {H : Type} {enc : TypeId × Value → H} {w : World} {base : Nat} {spare : Nat → Bool} {held : Bool}
theorem open_fates {fuel : Nat} {v : Value} {x : DataW H × List MemPlace} (h : DataW.trod enc Tryz.prog w base spare held fuel 29 [v] = some x) :
    ∃ ks : List Int, Rd w (Old w) 1 v ks.length (ints ks) ∧ ∀ k ∈ ks, I64 k := by
  obtain ⟨A, len, cap, rfl, hlc, hc⟩ := open_slice_fields Tryz.underlying29 Tryz.underlying56 fate_one fate_cells (by decide) h
  rcases Nat.eq_zero_or_pos len with h0 | h0
  · subst h0
    exact ⟨[], ⟨A, cap, rfl, hlc, rfl, fun h => absurd h (by simp)⟩, by simp⟩
  · obtain ⟨b, o, rfl, hb, hat⟩ := hc h0
    have hall : ∀ i, i < len → ∃ k : Int, w.cell? ⟨b, o + i, none⟩ = some (.int .i64 k) ∧ I64 k := by
      intro i hi
      obtain ⟨u, n, y, h1, h2⟩ := hat i hi 0 _ rfl
      obtain ⟨k, hk, _, hw⟩ := DataW.trod_int Tryz.underlying3 h2
      simp only [List.cons.injEq, and_true] at hk
      subst hk
      refine ⟨k, ?_, I64.of_wf hw⟩
      simpa using h1
    obtain ⟨ks, hl, hks⟩ := list_of hall
    subst hl
    refine ⟨ks, ⟨_, cap, rfl, hlc, by simp [ints], fun _ => ⟨b, o, rfl, hb, hb, fun i u hu => ?_⟩⟩, fun k hk => ?_⟩
    · have hi : i < ks.length := by
        rcases Nat.lt_or_ge i ks.length with h | h
        · exact h
        · rw [List.getElem?_eq_none (by simp [ints]; omega)] at hu; cases hu
      rw [(hks i hi).1]
      simpa [ints, hi] using hu
    · obtain ⟨i, hi, rfl⟩ := List.getElem_of_mem hk
      exact (hks i hi).2
end

end Go.Proofs.YthbicfbhghcmkaaGreat
