/-
  MarkParts: the walk.
-/
import Derived.Test.YthkbnhoebijdoaaMarkG
namespace Go.Proofs.Ythkbnhoebijdoaa
open Go Go.RowKit Go.SM

theorem placeV_in {n : Int} (h : 40 ≤ n ∧ n ≤ 8192) : placeV n = .tuple #[.int .i64 2, .int .i64 (n - cntS n - 2), .int .i64 (n - cntS n), .int .i64 (cntS n)] := by unfold placeV; rw [if_neg (by omega)]

set_option maxHeartbeats 4000000 in
theorem parts_walk (n m : Int) (w : World) : Calls Try.prog 5 #[.int .i64 n, .int .i64 m] w fun e w' => e = .returned (.bool true) ∧ Mod none_ w w' := by
  have a1 := Int.emod_nonneg n (show (8153 : Int) ≠ 0 by omega)
  have a2 := Int.emod_lt_of_pos n (show (0 : Int) < 8153 by omega)
  have b1 := Int.emod_nonneg m (show (8153 : Int) ≠ 0 by omega)
  have b2 := Int.emod_lt_of_pos m (show (0 : Int) < 8153 by omega)
  obtain ⟨p, hp⟩ : ∃ p, p = n % 8153 := ⟨_, rfl⟩
  obtain ⟨q, hq⟩ : ∃ q, q = m % 8153 := ⟨_, rfl⟩
  rw [← hp] at a1 a2
  rw [← hq] at b1 b2
  obtain ⟨X, hX⟩ : ∃ X : Int, X = max (40 + p) (40 + q) := ⟨_, rfl⟩
  obtain ⟨c, hc⟩ : ∃ c, c = cntS (40 + p) := ⟨_, rfl⟩
  obtain ⟨d, hd⟩ : ∃ d, d = cntS X := ⟨_, rfl⟩
  have hP1 := placeV_in (n := 40 + p) (by omega)
  have hP2 := placeV_in (n := X) (by omega)
  rw [← hc] at hP1
  rw [← hd] at hP2
  have t1 : decide ((26 : Int) ≤ 40 + p - c - 2) = true := by unfold cntS at hc; simp; omega
  have t2 : decide ((12 : Int) ≤ c) = true := by unfold cntS at hc; simp; omega
  have t3 : decide (40 + p - c - 2 ≤ X - d - 2) = true := by unfold cntS at hc hd; simp; omega
  have t4 : decide (c ≤ d) = true := by unfold cntS at hc hd; simp; omega
  have t5 : (40 + p - c == 2 + (40 + p - c - 2)) = true := by rw [beq_iff_eq]; omega
  have t6 : (40 + p - c + c == 40 + p) = true := by rw [beq_iff_eq]; omega
  have t7 : 40 + p - c ≤ X - d := by unfold cntS at hc hd; omega
  have hcb : 12 ≤ c ∧ c ≤ 2048 := by unfold cntS at hc; omega
  have hdb : 12 ≤ d ∧ d ≤ 2048 := by unfold cntS at hd; omega
  have hXb : 40 ≤ X ∧ X ≤ 8192 := by omega
  have HP1 := Lib.hid hP1
  have HP2 := Lib.hid hP2
  have HX := Lib.hid hX
  have Hp := Lib.hid hp
  have Hq := Lib.hid hq
  clear hP1 hP2 hc hd hX hp hq
  go_enter Try.func5, Try.ntmps5
  go_wp2_with fail
  refine (awake25 _).mono ?_
  rintro e w1 ⟨rfl, hm1⟩
  have HM1 := Lib.hid hm1
  clear hm1
  go_wp2_with fail
  refine (pick_any n 8153 _ ⟨by omega, by omega⟩).mono ?_
  rintro e w' ⟨rfl, rfl⟩
  rw [← Hp.out]
  go_wp2_with fail
  refine (pick_any m 8153 _ ⟨by omega, by omega⟩).mono ?_
  rintro e w' ⟨rfl, rfl⟩
  rw [← Hq.out]
  go_wp2_with fail
  refine (place_any (40 + p) _).mono ?_
  rintro e w' ⟨rfl, rfl⟩
  rw [HP1.out]
  go_wp2_with fail
  · refine (place_any _ _).mono ?_
    rintro e w' ⟨rfl, rfl⟩
    rw [show placeV _ = _ from (congrArg placeV (by have := HX.out; omega : _ = X)).trans HP2.out]
    go_wp2_with fail
    go_returns
    exact ⟨rfl, HM1.out⟩
  · refine (place_any _ _).mono ?_
    rintro e w' ⟨rfl, rfl⟩
    rw [show placeV _ = _ from (congrArg placeV (by have := HX.out; omega : _ = X)).trans HP2.out]
    go_wp2_with fail
    go_returns
    exact ⟨rfl, HM1.out⟩

end Go.Proofs.Ythkbnhoebijdoaa
