/-
  Arguments opened: slices of structs whose fields may take several cells.
-/
import Derived.Test.YthkbnhoebijdoaaOpen
namespace Go.Proofs.Ythkbnhoebijdoaa
open Go Go.RowKit Go.SM Go.ChangeShapes Go.WideShapes Go.Deep

section
variable {H : Type} {enc : TypeId × Value → H} {P : Program} {w : World} {base : Nat} {spare : Nat → Bool} {held : Bool}
theorem open_slice_wide {t e : TypeId} {fs : Array Field} {C : Nat} {fuel : Nat} {v : Value} {x : DataW H × List MemPlace} (ht : P.underlying t = some (.slice e)) (he : P.underlying e = some (.struct fs))
    (hC : P.cellsOf e = C) (hpos : 0 < C) (h : DataW.trod enc P w base spare held fuel t [v] = some x) :
    ∃ A len cap, v = .slice A len cap ∧ len ≤ cap ∧ (0 < len → ∃ b o, A = some ⟨b, o, none⟩ ∧ b < w.heap.size ∧
      ∀ i, i < len → ∃ (cs : List Value) (n : Nat), cs.length = C ∧ (∀ (j : Nat) (u : Value), cs[j]? = some u → w.cell? ⟨b, o + (i * C + j), none⟩ = some u) ∧
        ∀ (j : Nat) (f : Field), fs[j]? = some f → ∃ y : DataW H × List MemPlace, DataW.trod enc P w base spare held n f.type ((cs.drop f.offset).take (P.cellsOf f.type)) = some y) := by
  rcases open_slice ht h with ⟨h0, _⟩ | ⟨a, len, cap, m, n, D, Pl, hcs, hb, hl, hm, hmm, hx, hi⟩
  · simp only [List.cons.injEq, and_true] at h0
    exact ⟨none, 0, 0, h0, Nat.le_refl _, fun h => absurd h (by omega)⟩
  · simp only [List.cons.injEq, and_true] at hcs
    refine ⟨some a, len, cap, hcs, hl, fun h0 => ?_⟩
    have hlm : len ≤ m := by rw [hmm]; split <;> omega
    have hat : ∀ i, i < len → ∃ (cs : List Value) (n : Nat), cs.length = C ∧ (∀ (j : Nat) (u : Value), cs[j]? = some u → w.cell? (a.add (i * C + j)) = some u) ∧
        ∀ (j : Nat) (f : Field), fs[j]? = some f → ∃ y : DataW H × List MemPlace, DataW.trod enc P w base spare held n f.type ((cs.drop f.offset).take (P.cellsOf f.type)) = some y := by
      intro i hil
      obtain ⟨cs', hc, ht'⟩ := hi i (by omega)
      rw [hC] at hc
      obtain ⟨ys, n', hn', hy, hlen, hyl, hf⟩ := DataW.trod_struct he ht'
      obtain ⟨_, hcl, hat⟩ := World.cells?_some hc
      refine ⟨cs', n', hcl, fun j u hu => ?_, fun j f hj => ?_⟩
      · have hjl : j < cs'.length := (List.getElem?_eq_some_iff.1 hu).1
        have hcell := hat j (by omega)
        rw [← Go.Deep.add_add, hcell, hu]
      · have h1 := hf j f hj
        have hjl : j < fs.size := (Array.getElem?_eq_some_iff.1 hj).1
        have hys : ys[j]? = some (ys[j]'(by omega)) := List.getElem?_eq_getElem (by omega)
        exact ⟨_, h1.trans hys⟩
    obtain ⟨cs0, n0, hl0, hc0, _⟩ := hat 0 h0
    have hu := hc0 0 (cs0[0]'(by omega)) (List.getElem?_eq_getElem (by omega))
    have hs : a.spot = none := by
      simp only [Nat.zero_mul, Nat.zero_add, Addr.add_zero'] at hu
      unfold World.cell? at hu
      cases hsp : a.spot with
      | none => rfl
      | some q => rw [hsp] at hu; split at hu <;> simp at hu
    obtain ⟨ab, ao, asp⟩ := a
    simp only at hs
    subst hs
    refine ⟨ab, ao, rfl, ?_, fun i hil => ?_⟩
    · have h := World.block_lt_of_cell? w _ hu
      rw [Nat.zero_mul, Nat.zero_add, Addr.add_zero'] at h
      exact h
    · obtain ⟨cs, n', h1, h2, h3⟩ := hat i hil
      refine ⟨cs, n', h1, fun j u hu => ?_, h3⟩
      have := h2 j u hu
      rwa [Addr.add_lit] at this
end

end Go.Proofs.Ythkbnhoebijdoaa
