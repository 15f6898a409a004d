/-
  Fates that are lent: KeptFates.
-/
import Derived.Test.YthbicfbhghcmkaaGreatLentF
import Derived.BigQuiet
import Derived.Deep.RegionHeld3
namespace Go.Proofs.YthbicfbhghcmkaaGreat
open Go Go.RowKit Go.SM

theorem rd_int {w : World} {D : Nat → Prop} {v : Value} {l : List Int} (h : Rd w D 1 v l.length (ints l)) {j : Nat} (hj : j < l.length) :
    ∃ b o c, v = .slice (some ⟨b, o, none⟩) l.length c ∧ D b ∧ b < w.heap.size ∧ w.cell? ⟨b, o + j, none⟩ = some (.int .i64 l[j]) := by
  obtain ⟨b, o, c, hv, _, hD, hb, hc⟩ := h.form (by omega)
  exact ⟨b, o, c, hv, hD, hb, hc j _ (by simp [ints, hj])⟩

set_option maxHeartbeats 4000000 in
theorem keptF_any {w : World} {D D' : Nat → Prop} {g c : Nat} {v : Value} {l : List Int} (ho : Rd w D 1 (.slice (some ⟨g, 0, none⟩) (l.length + 12) c) (l.length + 12) (ints (l ++ marksF 1 12))) (hx : Rd w D' 1 v l.length (ints l)) (hl : l.length ≤ 1000000) :
    Calls Tryz.prog 32 #[.slice (some ⟨g, 0, none⟩) l.length c, v] w fun e w' => e = .returned (.bool true) ∧ Mod none_ w w' := by
  have HX := Lib.hid hx
  have HO := Lib.hid ho
  have HL := Lib.hid hl
  obtain ⟨A, c2, rfl⟩ := hx.slice
  obtain ⟨_, _, he, hc, _⟩ := ho
  cases he
  clear hx hl
  have hw1 : IntKind.i64.wrap ((l.length : Int) + 12) = ((l.length + 12 : Nat) : Int) := by rw [IntWalk.i64_in _ (by have := HL.out; omega)]; omega
  go_enter Tryz.func32, Tryz.ntmps32
  go_wp2_with fail
  go_loopw [6] (fun i wr => ∃ j : Nat, i = .int .i64 j ∧ j ≤ l.length + 12 ∧ Mod none_ w wr) (fun i _ => l.length + 12 - (intOf i).toNat)
  case atStart => exact ⟨0, rfl, Nat.zero_le _, Mod.refl _ _⟩
  case round =>
    obtain ⟨j, rfl, hj, hm⟩ := hrel
    have HM := Lib.hid hm
    clear hm
    by_cases hlt : j < l.length + 12
    · have hja : j < (l ++ marksF 1 12).length := by rw [List.length_append, marksF_len]; exact hlt
      obtain ⟨b, o, c1, he, _, _, hcx⟩ := rd_int (l := l ++ marksF 1 12) (by rw [List.length_append, marksF_len]; exact HO.out.keep HM.out (fun _ _ _ e => e)) hja
      rw [List.length_append, marksF_len] at he
      cases he
      have d2 : decide ((j : Int) < ((l.length + 12 : Nat) : Int)) = true := by simp; omega
      have e2 : (j : Int) < ((l.length + 12 : Nat) : Int) := by omega
      rw [Nat.zero_add] at hcx
      have hjb : j < 1000012 := by have := HL.out; omega
      by_cases hjl : j < l.length
      · rw [List.getElem_append_left hjl] at hcx
        obtain ⟨b2, o2, c3, he, _, _, hcy⟩ := rd_int (HX.out.keep HM.out (fun _ _ _ e => e)) hjl
        cases he
        have d3 : decide ((j : Int) < (l.length : Int)) = true := by simpa using hjl
        have e3 : (j : Int) < (l.length : Int) := by omega
        have d5 : decide (l.length ≤ j) = false := by simp; omega
        generalize l[j] = x at *
        have d4 : (x == x) = true := by simp
        go_wp2_with fail
        go_quiet (fail)
        go_wp2_with fail
        have HM2 := Lib.hid (HM.out.trans' ((Mod.refl none_ wr).drewN nq))
        exact ⟨⟨j + 1, by go_num, by omega, HM2.out⟩, by simp [intOf] <;> omega⟩
      · obtain ⟨t, ht⟩ : ∃ t, j = l.length + t := ⟨j - l.length, by omega⟩
        have ht12 : t < 12 := by omega
        have hx : (l ++ marksF 1 12)[j] = 1000003 * (1 + 7) + ((j : Int) - (l.length : Int)) := by
          rw [List.getElem_append_right (by omega)]
          have h1 := marksF_get 1 12 t ht12
          rw [show (j : Int) - (l.length : Int) = (t : Int) by omega, ← h1]
          congr 1
          omega
        rw [hx] at hcx
        have d3 : decide ((j : Int) < (l.length : Int)) = false := by simpa using hjl
        have d5 : decide (l.length ≤ j) = true := by simp; omega
        have d6 : decide (j < l.length) = false := by simpa using hjl
        have hsub : IntKind.i64.wrap ((j : Int) - (l.length : Int)) = (j : Int) - (l.length : Int) := IntWalk.i64_in _ (by have := HL.out; omega)
        have hj0 : 0 ≤ (j : Int) - (l.length : Int) ∧ (j : Int) - (l.length : Int) < 12 := by omega
        clear ht hx ht12
        obtain ⟨x, hxx⟩ : ∃ x, 1000003 * (1 + 7) + ((j : Int) - (l.length : Int)) = x := ⟨_, rfl⟩
        have HCALL := Lib.hid (show ∀ W : World, Calls Tryz.prog 44 #[.int .i64 1, .int .i64 ((j : Int) - (l.length : Int))] W (fun e w' => e = .returned (.agg #[.int .i64 x]) ∧ Mod none_ W w') from fun W => by
          have h := markF_any 1 ((j : Int) - (l.length : Int)) W (by omega) (by omega)
          rw [hxx] at h
          exact h)
        rw [hxx] at hcx
        clear hxx hj0
        have d4 : (x == x) = true := by simp
        go_wp2_with fail
        have hS : (fun W : World => W.cell? ⟨g, j, none⟩ = some (.int .i64 x)) wr.drew := hcx
        refine wp_region_held (S := (fun W : World => W.cell? ⟨g, j, none⟩ = some (.int .i64 x))) (by kernel_rfl) ?_
        show wpAnyH _ _ _ _ _ 35 _ _ wr.drew
        refine wpAnyH_take (i := 0) (oi := ⟨some 23, _, _, _, _, _⟩) (v := .int .i64 (j : Int)) rfl (by kernel_rfl) (by kernel_rfl) (by kernel_rfl) (fun _ _ _ h => h) (.inl ⟨by kernel_rfl, fun W hW => by go_simp⟩) hS ?_
        go_frame
        refine wpAnyH_take (i := 1) (oi := ⟨some 24, _, _, _, _, _⟩) (v := .slice A l.length c2) rfl (by kernel_rfl) (by kernel_rfl) (by kernel_rfl) (fun _ _ _ h => h) (.inl ⟨by kernel_rfl, fun W hW => by go_simp⟩) hS ?_
        go_frame
        refine wpAnyH_take (i := 2) (oi := ⟨some 25, _, _, _, _, _⟩) (v := .int .i64 (l.length : Int)) rfl (by kernel_rfl) (by kernel_rfl) (by kernel_rfl) (fun _ _ _ h => h) (.inl ⟨by kernel_rfl, fun W hW => by go_simp⟩) hS ?_
        go_frame
        refine wpAnyH_take (i := 3) (oi := ⟨some 26, _, _, _, _, _⟩) (v := .bool false) rfl (by kernel_rfl) (by kernel_rfl) (by kernel_rfl) (fun _ _ _ h => h) (.inl ⟨by kernel_rfl, fun W hW => by go_simp⟩) hS ?_
        go_frame
        refine wpAnyH_take (i := 4) (oi := ⟨some 27, _, _, _, _, _⟩) (v := .bool false) rfl (by kernel_rfl) (by kernel_rfl) (by kernel_rfl) (fun _ _ _ h => h) (.inl ⟨by kernel_rfl, fun W hW => by go_simp⟩) hS ?_
        go_frame
        refine wpAnyH_take (i := 5) (oi := ⟨some 28, _, _, _, _, _⟩) (v := undef) rfl (by kernel_rfl) (by kernel_rfl) (by kernel_rfl) (fun _ _ _ h => h) (.inr ⟨by kernel_rfl, rfl⟩) hS ?_
        go_frame
        refine wpAnyH_take (i := 6) (oi := ⟨some 29, _, _, _, _, _⟩) (v := undef) rfl (by kernel_rfl) (by kernel_rfl) (by kernel_rfl) (fun _ _ _ h => h) (.inr ⟨by kernel_rfl, rfl⟩) hS ?_
        go_frame
        refine wpAnyH_take (i := 7) (oi := ⟨some 30, _, _, _, _, _⟩) (v := undef) rfl (by kernel_rfl) (by kernel_rfl) (by kernel_rfl) (fun _ _ _ h => h) (.inr ⟨by kernel_rfl, rfl⟩) hS ?_
        go_frame
        refine wpAnyH_take (i := 8) (oi := ⟨some 31, _, _, _, _, _⟩) (v := undef) rfl (by kernel_rfl) (by kernel_rfl) (by kernel_rfl) (fun _ _ _ h => h) (.inr ⟨by kernel_rfl, rfl⟩) hS ?_
        go_frame
        refine wpAnyH_take (i := 9) (oi := ⟨some 32, _, _, _, _, _⟩) (v := undef) rfl (by kernel_rfl) (by kernel_rfl) (by kernel_rfl) (fun _ _ _ h => h) (.inr ⟨by kernel_rfl, rfl⟩) hS ?_
        go_frame
        refine wpAnyH_take (i := 10) (oi := ⟨some 33, _, _, _, _, _⟩) (v := undef) rfl (by kernel_rfl) (by kernel_rfl) (by kernel_rfl) (fun _ _ _ h => h) (.inr ⟨by kernel_rfl, rfl⟩) hS ?_
        go_frame
        refine wpAnyH_take (i := 11) (oi := ⟨some 34, _, _, _, _, _⟩) (v := undef) rfl (by kernel_rfl) (by kernel_rfl) (by kernel_rfl) (fun _ _ _ h => h) (.inr ⟨by kernel_rfl, rfl⟩) hS ?_
        go_frame
        refine wpAnyH_take (i := 12) (oi := ⟨some 35, _, _, _, _, _⟩) (v := undef) rfl (by kernel_rfl) (by kernel_rfl) (by kernel_rfl) (fun _ _ _ h => h) (.inr ⟨by kernel_rfl, rfl⟩) hS ?_
        go_frame
        refine wpAnyH_take (i := 13) (oi := ⟨some 36, _, _, _, _, _⟩) (v := undef) rfl (by kernel_rfl) (by kernel_rfl) (by kernel_rfl) (fun _ _ _ h => h) (.inr ⟨by kernel_rfl, rfl⟩) hS ?_
        go_frame
        refine wpAnyH_take (i := 14) (oi := ⟨some 37, _, _, _, _, _⟩) (v := undef) rfl (by kernel_rfl) (by kernel_rfl) (by kernel_rfl) (fun _ _ _ h => h) (.inr ⟨by kernel_rfl, rfl⟩) hS ?_
        go_frame
        refine wpAnyH_take (i := 15) (oi := ⟨some 38, _, _, _, _, _⟩) (v := .bool false) rfl (by kernel_rfl) (by kernel_rfl) (by kernel_rfl) (fun _ _ _ h => h) (.inl ⟨by kernel_rfl, fun W hW => by go_simp⟩) hS ?_
        go_frame
        refine wpAnyH_take (i := 16) (oi := ⟨some 39, _, _, _, _, _⟩) (v := .bool false) rfl (by kernel_rfl) (by kernel_rfl) (by kernel_rfl) (fun _ _ _ h => h) (.inl ⟨by kernel_rfl, fun W hW => by go_simp⟩) hS ?_
        go_frame
        refine wpAnyH_take (i := 17) (oi := ⟨some 40, _, _, _, _, _⟩) (v := .int .i64 (j : Int)) rfl (by kernel_rfl) (by kernel_rfl) (by kernel_rfl) (fun _ _ _ h => h) (.inl ⟨by kernel_rfl, fun W hW => by go_simp⟩) hS ?_
        go_frame
        refine wpAnyH_take (i := 18) (oi := ⟨some 41, _, _, _, _, _⟩) (v := .slice A l.length c2) rfl (by kernel_rfl) (by kernel_rfl) (by kernel_rfl) (fun _ _ _ h => h) (.inl ⟨by kernel_rfl, fun W hW => by go_simp⟩) hS ?_
        go_frame
        refine wpAnyH_take (i := 19) (oi := ⟨some 42, _, _, _, _, _⟩) (v := .int .i64 (l.length : Int)) rfl (by kernel_rfl) (by kernel_rfl) (by kernel_rfl) (fun _ _ _ h => h) (.inl ⟨by kernel_rfl, fun W hW => by go_simp⟩) hS ?_
        go_frame
        refine wpAnyH_take (i := 20) (oi := ⟨some 43, _, _, _, _, _⟩) (v := .bool true) rfl (by kernel_rfl) (by kernel_rfl) (by kernel_rfl) (fun _ _ _ h => h) (.inl ⟨by kernel_rfl, fun W hW => by go_simp⟩) hS ?_
        go_frame
        refine wpAnyH_take (i := 21) (oi := ⟨some 44, _, _, _, _, _⟩) (v := .bool true) rfl (by kernel_rfl) (by kernel_rfl) (by kernel_rfl) (fun _ _ _ h => h) (.inl ⟨by kernel_rfl, fun W hW => by go_simp⟩) hS ?_
        go_frame
        refine wpAnyH_take (i := 22) (oi := ⟨some 45, _, _, _, _, _⟩) (v := .slice (some ⟨g, 0, none⟩) (l.length + 12) c) rfl (by kernel_rfl) (by kernel_rfl) (by kernel_rfl) (fun _ _ _ h => h) (.inl ⟨by kernel_rfl, fun W hW => by go_simp⟩) hS ?_
        go_frame
        refine wpAnyH_take (i := 23) (oi := ⟨some 46, _, _, _, _, _⟩) (v := .int .i64 (j : Int)) rfl (by kernel_rfl) (by kernel_rfl) (by kernel_rfl) (fun _ _ _ h => h) (.inl ⟨by kernel_rfl, fun W hW => by go_simp⟩) hS ?_
        go_frame
        refine wpAnyH_take (i := 24) (oi := ⟨some 47, _, _, _, _, _⟩) (v := .pointer (some ⟨g, j, none⟩)) rfl (by kernel_rfl) (by kernel_rfl) (by kernel_rfl) (fun _ _ _ h => h) (.inl ⟨by kernel_rfl, fun W hW => by go_simp⟩) hS ?_
        go_frame
        refine wpAnyH_take (i := 25) (oi := ⟨some 48, _, _, _, _, _⟩) (v := .agg #[.int .i64 x]) rfl (by kernel_rfl) (by kernel_rfl) (by kernel_rfl) (fun _ _ _ h => h) (.inl ⟨by kernel_rfl, fun W hW => by have hW1 : W.cell? ⟨g, j, none⟩ = some (.int .i64 x) := hW; go_simp⟩) hS ?_
        go_frame
        refine wpAnyH_take (i := 26) (oi := ⟨some 49, _, _, _, _, _⟩) (v := .int .i64 (j : Int)) rfl (by kernel_rfl) (by kernel_rfl) (by kernel_rfl) (fun _ _ _ h => h) (.inl ⟨by kernel_rfl, fun W hW => by go_simp⟩) hS ?_
        go_frame
        refine wpAnyH_take (i := 27) (oi := ⟨some 50, _, _, _, _, _⟩) (v := .slice A l.length c2) rfl (by kernel_rfl) (by kernel_rfl) (by kernel_rfl) (fun _ _ _ h => h) (.inl ⟨by kernel_rfl, fun W hW => by go_simp⟩) hS ?_
        go_frame
        refine wpAnyH_take (i := 28) (oi := ⟨some 51, _, _, _, _, _⟩) (v := .int .i64 (l.length : Int)) rfl (by kernel_rfl) (by kernel_rfl) (by kernel_rfl) (fun _ _ _ h => h) (.inl ⟨by kernel_rfl, fun W hW => by go_simp⟩) hS ?_
        go_frame
        refine wpAnyH_take (i := 29) (oi := ⟨some 52, _, _, _, _, _⟩) (v := .int .i64 ((j : Int) - (l.length : Int))) rfl (by kernel_rfl) (by kernel_rfl) (by kernel_rfl) (fun _ _ _ h => h) (.inl ⟨by kernel_rfl, fun W hW => by go_simp⟩) hS ?_
        go_frame
        refine wpAnyH_ready (rs := [30]) (by kernel_rfl) (by simp) ?_
        refine AllReadyH.cons (o := ⟨some 53, .call _, _, _, _, _⟩) rfl (fun K hK => ?_) AllReadyH.nil
        rw [if_pos (by rfl)]
        go_simp
        refine (HCALL.out _).mono ?_
        rintro e w4 ⟨rfl, hm4⟩
        have hS4 : w4.cell? ⟨g, j, none⟩ = some (.int .i64 x) := hm4.of_drew.cell_eq hcx (fun e => e)
        refine hK.out _ _ hS4 (fun hS => ?_)
        clear hK K
        (try go_frame)
        refine wpAnyH_take (i := 31) (oi := ⟨some 54, _, _, _, _, _⟩) (v := .bool true) rfl (by kernel_rfl) (by kernel_rfl) (by kernel_rfl) (fun _ _ _ h => h) (.inl ⟨by kernel_rfl, fun W hW => by go_simp⟩) hS ?_
        go_frame
        refine wpAnyH_take (i := 32) (oi := ⟨some 55, _, _, _, _, _⟩) (v := .bool false) rfl (by kernel_rfl) (by kernel_rfl) (by kernel_rfl) (fun _ _ _ h => h) (.inl ⟨by kernel_rfl, fun W hW => by go_simp⟩) hS ?_
        go_frame
        refine wpAnyH_take (i := 33) (oi := ⟨some 56, _, _, _, _, _⟩) (v := .bool false) rfl (by kernel_rfl) (by kernel_rfl) (by kernel_rfl) (fun _ _ _ h => h) (.inl ⟨by kernel_rfl, fun W hW => by go_simp⟩) hS ?_
        go_frame
        refine wpAnyH_take (i := 34) (oi := ⟨some 57, _, _, _, _, _⟩) (v := .bool false) rfl (by kernel_rfl) (by kernel_rfl) (by kernel_rfl) (fun _ _ _ h => h) (.inl ⟨by kernel_rfl, fun W hW => by go_simp⟩) hS ?_
        go_frame
        refine wpAnyH_done (by kernel_rfl) ?_ 0
        have HM4 := Lib.hid (HM.out.trans' hm4.of_drew)
        clear hm4 hS4 hS
        go_wp2_with fail
        exact ⟨⟨j + 1, by go_num, by omega, HM4.out⟩, by simp [intOf] <;> omega⟩
    · have d2 : decide ((j : Int) < ((l.length + 12 : Nat) : Int)) = false := by simp; omega
      have e2 : ¬ (j : Int) < ((l.length + 12 : Nat) : Int) := by omega
      go_wp2_with fail
      go_returns
      exact ⟨rfl, HM.out⟩

end Go.Proofs.YthbicfbhghcmkaaGreat
