/-
  What a step writes: (Do).bytes.
-/
import Derived.Test.YthbicfbhghcmkaaGreatLentF
import Derived.Test.YthbicfbhghcmkaaGreatArgs
import Derived.Test.YthbicfbhghcmkaaGreatLawA
namespace Go.Proofs.YthbicfbhghcmkaaGreat
open Go Go.RowKit Go.SM

/-- a step as a value -/
def doV (x : DoD) (fv : Value) : Value := .agg #[.int .i64 x.op, .int .i64 x.sector, .int .i64 x.n, .int .u8 (x.byte.toNat : Int), fv]
def bytesD (x : DoD) : List UInt8 := if x.n.tmod 7 = 3 then (fullB x.byte).take (x.n % 512).toNat else fullB x.byte

structure DoB (w : World) (g : Nat) (x : DoD) (fv : Value) : Prop where
  heap : ∃ t, w.heap[g]? = some (.cells #[.int .i64 x.op, .int .i64 x.sector, .int .i64 x.n, .int .u8 (x.byte.toNat : Int), fv] t (0, 0))

section
variable {w w' : World} {g : Nat} {x : DoD} {fv : Value} {S : Nat → Prop}
theorem DoB.keep (h : DoB w g x fv) (hm : Mod S w w') (hn : ¬ S g) : DoB w' g x fv := by
  obtain ⟨t, hb⟩ := h.heap
  exact ⟨t, hm.get hb hn⟩
theorem DoB.c0 (h : DoB w g x fv) : w.cell? ⟨g, 0, none⟩ = some (.int .i64 x.op) := by obtain ⟨t, hb⟩ := h.heap; rw [cell_of_row w g 0 _ _ _ hb]; rfl
theorem DoB.c1 (h : DoB w g x fv) : w.cell? ⟨g, 1, none⟩ = some (.int .i64 x.sector) := by obtain ⟨t, hb⟩ := h.heap; rw [cell_of_row w g 1 _ _ _ hb]; rfl
theorem DoB.c2 (h : DoB w g x fv) : w.cell? ⟨g, 2, none⟩ = some (.int .i64 x.n) := by obtain ⟨t, hb⟩ := h.heap; rw [cell_of_row w g 2 _ _ _ hb]; rfl
theorem DoB.c3 (h : DoB w g x fv) : w.cell? ⟨g, 3, none⟩ = some (.int .u8 (x.byte.toNat : Int)) := by obtain ⟨t, hb⟩ := h.heap; rw [cell_of_row w g 3 _ _ _ hb]; rfl
theorem DoB.c4 (h : DoB w g x fv) : w.cell? ⟨g, 4, none⟩ = some fv := by obtain ⟨t, hb⟩ := h.heap; rw [cell_of_row w g 4 _ _ _ hb]; rfl
end

theorem rd_take {w : World} {D : Nat → Prop} {g c k : Nat} {l : List UInt8} (h : OwnS w D 5 1 (.slice (some ⟨g, 0, none⟩) l.length c) l.length (u8s l)) (hk : k ≤ l.length) : Rd w D 1 (.slice (some ⟨g, 0, none⟩) k c) k (u8s (l.take k)) := by
  obtain ⟨A, c', he, hc, hl, hcell⟩ := h.rd
  cases he
  refine ⟨_, _, rfl, by omega, by simp; omega, fun h0 => ?_⟩
  obtain ⟨b, o, hA, hD, hb, hx⟩ := hcell (by omega)
  refine ⟨b, o, hA, hD, hb, fun i u hu => hx i u ?_⟩
  rw [u8s, List.map_take] at hu
  have hi : i < k := by have := (List.getElem?_eq_some_iff.1 hu).1; simp at this; omega
  rwa [List.getElem?_take_of_lt hi] at hu

theorem pick_nat (x n : Int) (w : World) (hn : 1 ≤ n ∧ n ≤ 4611686018427387904) :
    Calls Tryz.prog 7 #[.int .i64 x, .int .i64 n] w fun e w' => ∃ k : Nat, e = .returned (.int .i64 (k : Int)) ∧ (k : Int) = x % n ∧ (k : Int) < n ∧ w = w' :=
  (pick_any x n w hn).mono fun e w' ⟨he, hw⟩ => by
    have h1 := Int.emod_nonneg x (show n ≠ 0 by omega)
    have h2 := Int.emod_lt_of_pos x (show 0 < n by omega)
    exact ⟨(x % n).toNat, by rw [he]; congr 2; omega, by omega, by omega, hw⟩

set_option maxHeartbeats 2000000 in
theorem bytes_any (x : DoD) (fv : Value) (w : World) :
    Calls Tryz.prog 21 #[doV x fv] w fun e w' => ∃ v, e = .returned v ∧ Rd w' (Fr w) 1 v (bytesD x).length (u8s (bytesD x)) ∧ Mod none_ w w' := by
  unfold doV
  go_enter Tryz.func21, Tryz.ntmps21
  go_wp2_with (with_reducible refine at_ (o := ⟨some 1, .box _ _, _, _, _, _⟩) ?_)
  refine un (wpList_box rfl 31 _ rfl _ rfl ?_)
  intro w1 g1 hb1 hm1 hs1
  have HX1 := Lib.hid (show DoB w1 g1 x fv from ⟨_, hb1⟩)
  have HM1 := Lib.hid hm1
  clear hb1 hm1 hs1
  have q3 := HX1.out.c3
  go_frame
  go_wp2_with fail
  refine (full_any x.byte _).mono ?_
  rintro e w2 ⟨v2, rfl, ho2, hm2⟩
  have HX2 := Lib.hid (HX1.out.keep hm2 (fun e => e))
  have HM2 := Lib.hid (HM1.out.trans' hm2)
  have HO2 := Lib.hid (ho2.mono (D' := Fr w) (fun r hr _ => Nat.le_trans HM1.out.size hr))
  obtain ⟨g2, c2, rfl, _, _⟩ := ho2.form1 (by omega)
  have hc2 := OwnS_cap ho2
  have q2 := HX2.out.c2
  clear ho2 hm2 q3
  by_cases h3 : x.n.tmod 7 = 3
  · have d3 : (x.n.tmod 7 == 3) = true := by simpa using h3
    have HB := Lib.hid (show bytesD x = (fullB x.byte).take (x.n % 512).toNat by unfold bytesD; rw [if_pos h3])
    clear h3
    go_wp2_with fail
    refine (pick_nat x.n 512 _ ⟨by omega, by omega⟩).mono ?_
    rintro e w' ⟨k, rfl, hk, hk5, rfl⟩
    have HK := Lib.hid (show (x.n % 512).toNat = k by omega)
    clear hk
    go_wp2_with fail
    go_returns
    rw [HB.out, HK.out]
    refine ⟨_, rfl, ?_, HM2.out⟩
    have h := rd_take (k := k) (l := fullB x.byte) (by rw [fullB_length]; exact HO2.out) (by rw [fullB_length]; omega)
    rw [show ((fullB x.byte).take k).length = k by rw [List.length_take, fullB_length]; omega]
    exact h
  · have d3 : (x.n.tmod 7 == 3) = false := by rw [beq_eq_false_iff_ne]; exact h3
    have HB := Lib.hid (show bytesD x = fullB x.byte by unfold bytesD; rw [if_neg h3])
    clear h3
    go_wp2_with fail
    go_returns
    rw [HB.out, fullB_length]
    exact ⟨_, rfl, HO2.out.rd, HM2.out⟩

end Go.Proofs.YthbicfbhghcmkaaGreat
