/-
  Bytes that are lent: OverBytes.
-/
import Derived.Test.YthbicfbhghcmkaaGreatLent
namespace Go.Proofs.YthbicfbhghcmkaaGreat
open Go Go.RowKit Go.SM

set_option maxHeartbeats 2000000 in
theorem over_any {w : World} {D : Nat → Prop} {g c : Nat} {n : Nat} {xs : List Value} (ho : OwnS w D 5 1 (.slice (some ⟨g, 0, none⟩) (n + 12) c) (n + 12) xs) (hl : n ≤ 70368744177664) :
    Calls Tryz.prog 25 #[.slice (some ⟨g, 0, none⟩) n c] w fun e w' => e = .returned (.tuple #[]) ∧ Mod (· = g) w w' := by
  have HO := Lib.hid ho
  have HL := Lib.hid hl
  have hc := OwnS_cap ho
  clear ho hl
  have hw1 : IntKind.i64.wrap ((n : Int) + 12) = ((n + 12 : Nat) : Int) := by rw [IntWalk.i64_in _ (by have := HL.out; omega)]; omega
  go_enter Tryz.func25, Tryz.ntmps25
  go_wp2_with fail
  go_loopw [3] (fun i wr => ∃ (j : Nat) (ys : List Value), i = .int .i64 j ∧ j ≤ n + 12 ∧ OwnS wr D 5 1 (.slice (some ⟨g, 0, none⟩) (n + 12) c) (n + 12) ys ∧ Mod (· = g) w wr) (fun i _ => n + 12 - (intOf i).toNat)
  case atStart => exact ⟨0, _, rfl, Nat.zero_le _, HO.out, Mod.refl _ _⟩
  case round =>
    obtain ⟨j, ys, rfl, hj, ho, hm⟩ := hrel
    have HO2 := Lib.hid ho
    have HM := Lib.hid hm
    clear ho hm HO
    have hjb : j < 70368744177677 := by have := HL.out; omega
    by_cases hlt : j < n + 12
    · have d2 : decide ((j : Int) < ((n + 12 : Nat) : Int)) = true := by simp; omega
      have e2 : (j : Int) < ((n + 12 : Nat) : Int) := by omega
      obtain ⟨cur, hcur, _⟩ := HO2.out.blk
      have f := frozen_of_row wr g j _ _ hcur
      have hjy : j < ys.length := by have := HO2.out.row.1; omega
      have q := HO2.out.cell (List.getElem?_eq_getElem hjy)
      have hset := HO2.out.set (i := j) (.int .u8 ((mB 2 j).toNat : Int))
      have hm5 : Mod (· = g) w (wr.setCell ⟨g, j, none⟩ (.int .u8 ((mB 2 j).toNat : Int))) := HM.out.setCell (p := ⟨g, j, none⟩) (.inl rfl) _
      have HS := Lib.hid hset
      have HM5 := Lib.hid hm5
      generalize ys[j] = y at *
      clear hset hm5 hcur
      go_wp2_with fail
      refine (markB_any 2 j _ (by omega) (by omega)).mono ?_
      rintro e w' ⟨rfl, rfl⟩
      go_wp2_with fail
      exact ⟨⟨j + 1, _, by go_num, by omega, HS.out, HM5.out⟩, by simp [intOf] <;> omega⟩
    · have d2 : decide ((j : Int) < ((n + 12 : Nat) : Int)) = false := by simp; omega
      have e2 : ¬ (j : Int) < ((n + 12 : Nat) : Int) := by omega
      go_wp2_with fail
      go_end0
      exact ⟨rfl, HM.out⟩

end Go.Proofs.YthbicfbhghcmkaaGreat
