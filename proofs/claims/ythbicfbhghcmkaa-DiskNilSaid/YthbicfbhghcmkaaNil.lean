/-
  DiskNil: the walk.
-/
import Derived.Test.YthbicfbhghcmkaaZero
import Derived.Test.YthbicfbhghcmkaaAwake
namespace Go.Proofs.Ythbicfbhghcmkaa
open Go Go.RowKit Go.SM

theorem copy_zero {w : World} {b : Nat} {a : Int} (h : ZeroAt w b a) : Calls Try.prog 41 #[.pointer (some ⟨b, 0, none⟩)] w fun e w' => e = .returned (.pointer none) ∧ w = w' := by
  have h0 := h.c0
  clear h
  go_enter Try.func41, Try.ntmps41
  go_wp2
  go_ret
  exact ⟨rfl, rfl⟩

theorem copy_nil (w : World) : Calls Try.prog 41 #[.pointer none] w fun e w' => e = .returned (.pointer none) ∧ w = w' := by
  go_enter Try.func41, Try.ntmps41
  go_wp2
  go_ret
  exact ⟨rfl, rfl⟩

theorem no_copy {w : World} {p : Value} (h : Nought w p) : Calls Try.prog 41 #[p] w fun e w' => e = .returned (.pointer none) ∧ w = w' := by
  rcases h with rfl | ⟨b, a, rfl, hz⟩
  · exact copy_nil w
  · exact copy_zero hz

set_option maxHeartbeats 2000000 in
theorem none_any {w : World} {p : Value} (h : Nought w p) (n : Int) : Calls Try.prog 26 #[p, .int .i64 n] w fun e w' => e = .returned (.bool true) ∧ Mod (noughtOwn p) w w' := by
  have H := Lib.hid h
  clear h
  go_enter Try.func26, Try.ntmps26
  go_wp2_with ((with_reducible refine (no_read H.out _).mono ?_); rintro e w' ⟨rfl, rfl⟩)
  refine (no_arm H.out _).mono ?_
  rintro e w2 ⟨rfl, h2, hm2⟩
  have H2 := Lib.hid h2
  have HM2 := Lib.hid hm2
  clear h2 hm2
  go_wp2_with ((with_reducible refine (no_wake H2.out _).mono ?_); rintro e w' ⟨rfl, rfl⟩)
  refine (full_any 1 _).mono ?_
  rintro e w3 ⟨v3, rfl, _, hm3⟩
  have H3 := Lib.hid (H2.out.keep hm3 (fun _ _ e => e))
  have HM3 := Lib.hid (HM2.out.trans hm3 (fun _ e _ => e.elim))
  clear hm3
  go_wp2_with (first | ((with_reducible refine (no_write H3.out _ _).mono ?_); rintro e w' ⟨rfl, rfl⟩) | ((with_reducible refine (no_sync H3.out).mono ?_); rintro e w' ⟨rfl, rfl⟩) | ((with_reducible refine (no_down H3.out).mono ?_); rintro e w' ⟨rfl, rfl⟩) | ((with_reducible refine (no_sectors H3.out).mono ?_); rintro e w' ⟨rfl, rfl⟩) | ((with_reducible refine (no_copy H3.out).mono ?_); rintro e w' ⟨rfl, rfl⟩))
  go_ret
  exact ⟨rfl, HM3.out⟩

set_option maxHeartbeats 2000000 in
theorem nil_walk (n : Int) (w : World) : Calls Try.prog 7 #[.int .i64 n] w fun e w' => e = .returned (.bool true) ∧ Mod none_ w w' := by
  go_enter Try.func7, Try.ntmps7
  go_wp2_with fail
  refine (awake_any _).mono ?_
  rintro e w1 ⟨rfl, hm1⟩
  have HM1 := Lib.hid hm1
  clear hm1
  go_wp2_with fail
  refine (none_any (p := .pointer none) (.inl rfl) n).mono ?_
  rintro e w2 ⟨rfl, hm2⟩
  have HM2 := Lib.hid (HM1.out.trans hm2 (fun r e _ => by cases e))
  clear hm2
  go_wp2_with fail
  have hma := (Mod.refl none_ w2).alloc (.cells (zCells 0) 54)
  refine (none_any (p := .pointer (some ⟨w2.heap.size, 0, none⟩)) (.inr ⟨_, 0, rfl, heap_alloc_new w2 _⟩) n).mono ?_
  rintro e w3 ⟨rfl, hm3⟩
  have HM3 := Lib.hid ((HM2.out.trans' hma).trans hm3 (fun r e hr => by have h1 := HM2.out.size; cases e; omega))
  clear hm3 hma
  go_wp2_with fail
  go_ret
  exact ⟨rfl, HM3.out⟩

end Go.Proofs.Ythbicfbhghcmkaa
