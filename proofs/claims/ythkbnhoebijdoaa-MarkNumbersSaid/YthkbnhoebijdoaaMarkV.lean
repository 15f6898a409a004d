/-
  MarkNumbers: what its disks hold (no program's step in sight).
-/
import Derived.Test.YthkbnhoebijdoaaMarkU
import Derived.Test.YthkbnhoebijdoaaMarkL
namespace Go.Proofs.Ythkbnhoebijdoaa
open Go Go.RowKit Go.SM

def goodM : Mst := ⟨2305843009213693952, 2147483647, 1152921504606846976, 1152921504606846976⟩
def threeM : Mst := ⟨3, 1, 1, 0⟩
def badL : List Mst := [⟨2305843009213693953, 1, 1, 0⟩, ⟨-1, 1, 1, 0⟩, ⟨1, 0, 1, 0⟩, ⟨1, 2147483648, 1, 0⟩, ⟨1, 1, 0, 0⟩, ⟨1, 1, 1152921504606846977, 0⟩, ⟨1, 1, 1, -1⟩, ⟨1, 1, 1, 1152921504606846977⟩]

theorem parse_zs : parseM zs = zeroM := by kernel_rfl
theorem okM_zs (i : Nat) : okM zs i = false := by
  unfold okM
  rw [parse_zs]
  rfl
theorem rd_zero {s : DS} (h : CalmD s) (h0 : okM (latS s 0) 0 = false) (h1 : okM (latS s 1) 1 = false) : rdMT s = (4, zeroM) := by
  have hn := h.n
  have b1 : bestS s 1 = zeroM := by
    rw [bestS_succ s 0, show ((0 : Nat) : Int) = 0 from rfl, h0]
    rfl
  have b2 : bestS s 2 = zeroM := by
    rw [bestS_succ s 1, show ((1 : Nat) : Int) = 1 from rfl, h1, b1]
    rfl
  unfold rdMT
  rw [if_neg (by omega), if_neg (by rw [h.may ⟨by omega, by omega⟩]; simp), b2]
  rfl
theorem rd_new : rdMT (newS 40) = (4, zeroM) := rd_zero (calm_new 40 (by omega)) (by rw [new_zs]; exact okM_zs 0) (by rw [new_zs]; exact okM_zs 1)

theorem nums_one : ∃ t1 t2, mwT (newS 40) goodM = (0, t1) ∧ rdMT t1 = (0, goodM) ∧ mwT t1 threeM = (0, t2) ∧ rdMT t2 = (0, goodM) ∧ latS t2 0 = secM goodM ∧ mayE t2 0 = 0 ∧ t1.n = 40 := by
  have hc := calm_new 40 (by omega)
  obtain ⟨t1, f1, k1, n1, l1⟩ := mwT_calm hc (m := goodM) (by decide)
  obtain ⟨t2, f2, k2, n2, l2⟩ := mwT_calm k1 (m := threeM) (by decide)
  have o1 := flush_none hc (m := goodM) (by decide)
  rw [f1] at o1
  have o2 := flush_none k1 (m := threeM) (by decide)
  rw [f2] at o2
  have h10 : latS t1 0 = secM goodM := by rw [l1]; rfl
  have h11 : latS t1 1 = zs := by rw [l1, if_neg (by decide)]; exact new_zs 40 1
  have h20 : latS t2 0 = secM goodM := by rw [l2, if_neg (by decide)]; exact h10
  have h21 : latS t2 1 = secM threeM := by rw [l2]; rfl
  have g1 : Good t1 goodM := ⟨n1.trans rfl, k1.d, o1, by decide, h10, fun i hi hne hk => by
    have e : goodM.seq % 2 = 0 := rfl
    have : i = 1 := by rw [e] at hne; omega
    subst this
    rw [show ((1 : Nat) : Int) = 1 from rfl, h11, okM_zs] at hk
    exact absurd hk (by simp)⟩
  have g2 : Good t2 goodM := ⟨n2.trans (n1.trans rfl), k2.d, o2, by decide, h20, fun i hi hne _ => by
    have e : goodM.seq % 2 = 0 := rfl
    have : i = 1 := by rw [e] at hne; omega
    subst this
    rw [show ((1 : Nat) : Int) = 1 from rfl, h21, parse_sec (by decide)]
    decide⟩
  exact ⟨t1, t2, f1, g1.rd, f2, g2.rd, h20, k2.may ⟨by omega, by have := k2.n; omega⟩, n1⟩

theorem nums_two : ∃ t3, writeT (newS 40) 1 (secM goodM) = (0, t3) ∧ rdMT t3 = (4, zeroM) := by
  have hc := calm_new 40 (by omega)
  refine ⟨_, writeT_calm hc ⟨by omega, by show (1 : Int) < 40; omega⟩ (secM_length _), rd_zero (hc.put_ _ _) ?_ ?_⟩
  · rw [latS_put, if_neg (by omega), new_zs]
    exact okM_zs 0
  · rw [latS_put, if_pos rfl]
    unfold okM
    rw [parse_sec (by decide), show goodM.seq % 2 = 0 from rfl]
    rfl

theorem small39 : rdMT (newS 39) = (2, zeroM) ∧ fmT (newS 39) = (2, newS 39) ∧ mwT (newS 39) goodM = (2, newS 39) := by
  have h : (newS 39).n < 40 := by show (39 : Int) < 40; omega
  unfold rdMT fmT mwT
  exact ⟨if_pos h, if_pos h, if_pos h⟩

theorem bad_not : ∀ i (h : i < badL.length), badL[i].may = false := by decide
theorem bad_len : badL.length = 8 := rfl

theorem DmAt.of_row {w : World} {D : Nat → Prop} {g o : Nat} {xs : List Value} {t : TypeId} {x : DoM} {fv : Value} (hb : w.heap[g]? = some (.cells xs.toArray t (0, 0))) (hx : ∀ j, j < 8 → xs[o + j]? = (dmL x fv)[j]?) (hf : Rd w D 1 fv x.fates.length (ints x.fates)) : DmAt w D g o x := by
  have hc : ∀ j u, j < 8 → (dmL x fv)[j]? = some u → w.cell? ⟨g, o + j, none⟩ = some u := fun j u hj hu => by
    rw [cell_of_row w g _ _ _ _ hb]
    simp only [List.getElem?_toArray]
    rw [hx j hj]
    exact hu
  exact ⟨hc 0 _ (by omega) rfl, hc 1 _ (by omega) rfl, hc 2 _ (by omega) rfl, hc 3 _ (by omega) rfl, hc 4 _ (by omega) rfl, hc 5 _ (by omega) rfl, ⟨fv, hc 6 _ (by omega) rfl, hf⟩, hc 7 _ (by omega) rfl⟩

end Go.Proofs.Ythkbnhoebijdoaa
