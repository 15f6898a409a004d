/-
  MarkPlaces, MarkParts: the walks.
-/
import Derived.Test.YthkbnhoebijdoaaMarkG
namespace Go.Proofs.Ythkbnhoebijdoaa
open Go Go.RowKit Go.SM

theorem rplace_any (n : Int) (w : World) : Calls Try.prog 10 #[.int .i64 n] w fun e w' => e = .returned (placeV n) ∧ w = w' := by
  by_cases h1 : n < 40
  · have d1 : decide (n < 40) = true := by simpa using h1
    have HP := Lib.hid (show placeV n = .tuple #[.int .i64 0, .int .i64 0, .int .i64 0, .int .i64 0] by unfold placeV; rw [if_pos (.inl h1)])
    go_enter Try.func10, Try.ntmps10
    go_wp2
    go_returns
    exact ⟨by rw [HP.out], rfl⟩
  · have d1 : decide (n < 40) = false := by simpa using h1
    by_cases h2 : 8192 < n
    · have d2 : decide (8192 < n) = true := by simpa using h2
      have HP := Lib.hid (show placeV n = .tuple #[.int .i64 0, .int .i64 0, .int .i64 0, .int .i64 0] by unfold placeV; rw [if_pos (.inr h2)])
      go_enter Try.func10, Try.ntmps10
      go_wp2
      go_returns
      exact ⟨by rw [HP.out], rfl⟩
    · have d2 : decide (8192 < n) = false := by simpa using h2
      obtain ⟨m, rfl⟩ : ∃ m : Nat, n = m := ⟨n.toNat, by omega⟩
      have HP := Lib.hid (show placeV m = .tuple #[.int .i64 2, .int .i64 ((m : Int) - cntS m - 2), .int .i64 ((m : Int) - cntS m), .int .i64 (cntS m)] by unfold placeV; rw [if_neg (by omega)])
      go_enter Try.func10, Try.ntmps10
      go_wp2
      · go_returns
        have e : cntS m = 12 := by unfold cntS; omega
        exact ⟨by rw [HP.out, e, show (m : Int) - 12 - 2 = m - 2 - 12 by omega], rfl⟩
      · go_returns
        have e : cntS m = (m : Int) / 4 := by unfold cntS; omega
        exact ⟨by rw [HP.out, e, show (m : Int) - m / 4 - 2 = m - 2 - m / 4 by omega], rfl⟩

theorem placeV_parts (n : Int) : ∃ a b c d, placeV n = .tuple #[.int .i64 a, .int .i64 b, .int .i64 c, .int .i64 d] := by
  unfold placeV
  split
  · exact ⟨_, _, _, _, rfl⟩
  · exact ⟨_, _, _, _, rfl⟩

set_option maxHeartbeats 1000000 in
theorem places_walk (n : Int) (w : World) : Calls Try.prog 3 #[.int .i64 n] w fun e w' => e = .returned (.bool true) ∧ Mod none_ w w' := by
  obtain ⟨pa, pb, pc, pd, hp⟩ := placeV_parts n
  have HP := Lib.hid hp
  clear hp
  go_enter Try.func3, Try.ntmps3
  go_wp2_with fail
  refine (place_any n _).mono ?_
  rintro e w' ⟨rfl, rfl⟩
  rw [HP.out]
  go_wp2_with fail
  refine (rplace_any n _).mono ?_
  rintro e w' ⟨rfl, rfl⟩
  rw [HP.out]
  go_wp2_with fail
  refine (awake25 _).mono ?_
  rintro e w1 ⟨rfl, hm1⟩
  have HM1 := Lib.hid hm1
  clear hm1
  go_wp2_with fail
  go_returns
  exact ⟨rfl, HM1.out⟩

end Go.Proofs.Ythkbnhoebijdoaa
