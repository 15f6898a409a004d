/-
  Bytes that are lent: KeptBytes.
-/
import Derived.Test.YthbicfbhghcmkaaGreatLent
import Derived.BigQuiet
namespace Go.Proofs.YthbicfbhghcmkaaGreat
open Go Go.RowKit Go.SM

set_option maxHeartbeats 2000000 in
theorem kept_any {w : World} {D D' : Nat → Prop} {g c : Nat} {v : Value} {l : List UInt8} (ho : Rd w D 1 (.slice (some ⟨g, 0, none⟩) (l.length + 12) c) (l.length + 12) (u8s (l ++ marksB 1 12))) (hx : Rd w D' 1 v l.length (u8s l)) (hl : l.length ≤ 70368744177664) :
    Calls Tryz.prog 24 #[.slice (some ⟨g, 0, none⟩) l.length c, v] w fun e w' => e = .returned (.bool true) ∧ Mod none_ w w' := by
  have HX := Lib.hid hx
  have HO := Lib.hid ho
  have HL := Lib.hid hl
  obtain ⟨A, c2, rfl⟩ := hx.slice
  obtain ⟨_, _, he, hc, _⟩ := ho
  cases he
  clear hx hl
  have hw1 : IntKind.i64.wrap ((l.length : Int) + 12) = ((l.length + 12 : Nat) : Int) := by rw [IntWalk.i64_in _ (by have := HL.out; omega)]; omega
  go_enter Tryz.func24, Tryz.ntmps24
  go_wp2_with fail
  go_loopw [6] (fun i wr => ∃ j m : Nat, i = .int .i64 j ∧ j ≤ l.length + 12 ∧ wr = w.drewN m) (fun i _ => l.length + 12 - (intOf i).toNat)
  case atStart => exact ⟨0, 0, rfl, Nat.zero_le _, rfl⟩
  case round =>
    obtain ⟨j, m, rfl, hj, rfl⟩ := hrel
    by_cases hlt : j < l.length + 12
    · have hja : j < (l ++ marksB 1 12).length := by rw [List.length_append, marksB_len]; exact hlt
      obtain ⟨b, o, c1, he, _, _, hcx⟩ := rd_byte (l := l ++ marksB 1 12) (by rw [List.length_append, marksB_len]; exact HO.out) hja
      rw [List.length_append, marksB_len] at he
      cases he
      have d2 : decide ((j : Int) < ((l.length + 12 : Nat) : Int)) = true := by simp; omega
      have e2 : (j : Int) < ((l.length + 12 : Nat) : Int) := by omega
      rw [Nat.zero_add] at hcx
      have hjb : j < 70368744177676 := by have := HL.out; omega
      by_cases hjl : j < l.length
      · rw [List.getElem_append_left hjl] at hcx
        obtain ⟨b2, o2, c3, he, _, _, hcy⟩ := rd_byte HX.out hjl
        cases he
        have d3 : decide ((j : Int) < (l.length : Int)) = true := by simpa using hjl
        have e3 : (j : Int) < (l.length : Int) := by omega
        have d5 : decide (l.length ≤ j) = false := by simp; omega
        generalize l[j] = x at *
        have d4 : ((x.toNat : Int) == (x.toNat : Int)) = true := by simp
        go_wp2_with fail
        go_quiet (fail)
        go_wp2_with fail
        go_roundw
        case rel => exact ⟨j + 1, _, by go_num, by omega, rfl⟩
        case measure => simp [intOf]; omega
      · obtain ⟨t, ht⟩ : ∃ t, j = l.length + t := ⟨j - l.length, by omega⟩
        have ht12 : t < 12 := by omega
        have hx : (l ++ marksB 1 12)[j] = mB 1 t := by
          rw [List.getElem_append_right (by omega)]
          have := marksB_get 1 12 t ht12
          rw [← this]
          congr 1
          omega
        rw [hx] at hcx
        have d3 : decide ((j : Int) < (l.length : Int)) = false := by simpa using hjl
        have d5 : decide (l.length ≤ j) = true := by simp; omega
        have d6 : decide (j < l.length) = false := by simpa using hjl
        have htj : ((t : Nat) : Int) = (j : Int) - (l.length : Int) := by omega
        have hsub : IntKind.i64.wrap ((j : Int) - (l.length : Int)) = (j : Int) - (l.length : Int) := IntWalk.i64_in _ (by have := HL.out; omega)
        have hj0 : 0 ≤ (j : Int) - (l.length : Int) ∧ (j : Int) - (l.length : Int) < 12 := by omega
        rw [htj] at hcx
        clear ht hx htj ht12
        obtain ⟨x, hxx⟩ : ∃ x, mB 1 ((j : Int) - (l.length : Int)) = x := ⟨_, rfl⟩
        have HCALL := Lib.hid (show ∀ W : World, Calls Tryz.prog 41 #[.int .i64 1, .int .i64 ((j : Int) - (l.length : Int))] W (fun e w' => e = .returned (.int .u8 (x.toNat : Int)) ∧ W = w') from fun W => by
          have h := markB_any 1 ((j : Int) - (l.length : Int)) W (by omega) (by omega)
          rw [hxx] at h
          exact h)
        rw [hxx] at hcx
        clear hxx hj0
        have d4 : ((x.toNat : Int) == (x.toNat : Int)) = true := by simp
        go_wp2_with fail
        go_quiet ((go_at_call 41; exact (HCALL.out _).mono (fun e w' h => ⟨h.1, _, h.2.symm⟩)))
        go_wp2_with fail
        go_roundw
        case rel => exact ⟨j + 1, _, by go_num, by omega, rfl⟩
        case measure => simp [intOf]; omega
    · have d2 : decide ((j : Int) < ((l.length + 12 : Nat) : Int)) = false := by simp; omega
      have e2 : ¬ (j : Int) < ((l.length + 12 : Nat) : Int) := by omega
      go_wp2_with fail
      go_ret
      exact ⟨rfl, (Mod.refl _ _).drewN _⟩

end Go.Proofs.YthbicfbhghcmkaaGreat
