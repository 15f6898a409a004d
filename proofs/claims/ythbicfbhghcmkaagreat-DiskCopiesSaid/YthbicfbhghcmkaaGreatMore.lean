/-
  More plain words: rows that are filled cell by cell.
-/
import Derived.Test.YthbicfbhghcmkaaGreatOps
namespace Go.SM
open Go Go.RowKit

theorem fill_step {l : List Value} {n j : Nat} {z c : Value} (hl : l.length = j) (hj : j < n) :
    (l ++ List.replicate (n - j) z).toArray.setIfInBounds j c = (l ++ [c] ++ List.replicate (n - (j + 1)) z).toArray := by
  subst hl
  rw [List.setIfInBounds_toArray]
  congr 1
  rw [List.set_append_right _ _ (Nat.le_refl _), Nat.sub_self, show n - l.length = (n - (l.length + 1)) + 1 by omega, List.replicate_succ, List.set_cons_zero, List.append_assoc]
  rfl

theorem byte_add (b : UInt8) (j : Nat) : ((b + UInt8.ofNat (j / 64)).toNat : Int) = ((b.toNat : Int) + (j : Int) / 64) % 256 := by
  have h : (b + UInt8.ofNat (j / 64)).toNat = (b.toNat + j / 64) % 256 := by
    rw [UInt8.toNat_add, UInt8.toNat_ofNat']
    omega
  rw [h]
  omega

end Go.SM

namespace Go.SM
theorem Mod.of_drew {S : Nat → Prop} {w w' : World} (h : Mod S w.drew w') : Mod S w w' := ⟨h.os, h.tape, h.output, h.size, h.block⟩
theorem Mod.cell_eq {S : Nat → Prop} {w w' : World} (h : Mod S w w') {p : Addr} {v : Value} (hc : w.cell? p = some v) (hn : ¬ S p.block) : w'.cell? p = some v :=
  (h.cell (World.block_lt_of_cell? w p hc) hn).trans hc
end Go.SM
