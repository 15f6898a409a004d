/-
  The disk's methods, one by one: New, Sectors, Down, Arm, Read, Write.
-/
import Derived.Test.YthbicfbhghcmkaaGreatDiskB
import Derived.StillTailTactics
namespace Go.Proofs.YthbicfbhghcmkaaGreat
open Go Go.RowKit Go.SM

theorem eltB : Elt Tryz.prog 37 5 1 1 := Elt.mk' (.int .u8 0) Tryz.underlying37 (by kernel_rfl) rfl (by decide)

def newS (n : Int) : DS := ⟨n, fun _ => none, fun _ => none, 0, false⟩

theorem new_no (n : Int) (w : World) (h : n < 1 ∨ 8192 < n) : Calls Tryz.prog 4 #[.int .i64 n] w fun e w' => e = .returned (.pointer none) ∧ w = w' := by
  by_cases h1 : n < 1
  · have d1 : decide (n < 1) = true := by simpa using h1
    clear h
    go_enter Tryz.func4, Tryz.ntmps4
    go_wp2
    go_ret
    exact ⟨rfl, rfl⟩
  · have d1 : decide (n < 1) = false := by simpa using h1
    have d2 : decide (8192 < n) = true := by simp; omega
    clear h
    go_enter Tryz.func4, Tryz.ntmps4
    go_wp2
    go_ret
    exact ⟨rfl, rfl⟩

def NewPost (n : Int) (w : World) (e : Ending) (w' : World) : Prop :=
  ∃ b ms mo, e = .returned (.pointer (some ⟨b, 0, none⟩)) ∧ DkAt w' b ms mo (newS n) ∧ Mod none_ w w' ∧ w.heap.size ≤ b ∧ w.heap.size ≤ ms ∧ w.heap.size ≤ mo

theorem new_yes (n : Int) (w : World) (h : 1 ≤ n ∧ n ≤ 8192) : Calls Tryz.prog 4 #[.int .i64 n] w (NewPost n w) := by
  have d1 : decide (n < 1) = false := by simp; omega
  have d2 : decide (8192 < n) = false := by simp; omega
  have H := Lib.hid h
  clear h
  go_enter Tryz.func4, Tryz.ntmps4
  go_wp2_with (with_reducible refine at_ (o := ⟨some 10, _, _, _, _, _⟩) ?_)
  refine un (wpList_newmap rfl 46 rfl ?_)
  intro w1 g1 hb1 hm1 hs1
  have HB1 := Lib.hid hb1
  have HM1 := Lib.hid hm1
  clear hb1 hm1
  go_wp2_with (with_reducible refine at_ (o := ⟨some 11, _, _, _, _, _⟩) ?_)
  refine un (wpList_newmap rfl 46 rfl ?_)
  intro w2 g2 hb2 hm2 hs2
  have HM2 := Lib.hid (HM1.out.trans' hm2)
  have HB1' := Lib.hid (HB1.out.keep hm2 fun e => e)
  have HB2 := Lib.hid hb2
  clear hb2 hm2
  go_wp2_with (with_reducible refine at_ (o := ⟨some 13, _, _, _, _, _⟩) ?_)
  refine un (wpList_box rfl 48 _ rfl (dkCells g1 g2 (newS n)) rfl ?_)
  intro w3 g3 hb3 hm3 hs3
  have HM3 := Lib.hid (HM2.out.trans' hm3)
  have HB1'' := Lib.hid (HB1'.out.keep hm3 fun e => e)
  have HB2'' := Lib.hid (HB2.out.keep hm3 fun e => e)
  have HB3 := Lib.hid hb3
  clear hb3 hm3
  go_wp2
  go_ret
  have z1 := HB1.out.lt
  have z2 := HB2.out.lt
  have z0 := HM1.out.size
  have z3 := HM2.out.size
  exact ⟨g3, g1, g2, rfl, ⟨HB3.out, HB1''.out, HB2''.out, ⟨by omega, by omega, by omega⟩, H.out, by simp [newS]⟩, HM3.out, by omega, by omega, by omega⟩

theorem sectors_nil (w : World) : Calls Tryz.prog 20 #[.pointer none] w fun e w' => e = .returned (.int .i64 0) ∧ w = w' := by
  go_enter Tryz.func20, Tryz.ntmps20
  go_wp2
  go_ret
  exact ⟨rfl, rfl⟩

theorem sectors_any {w : World} {b ms mo : Nat} {s : DS} (h : DkAt w b ms mo s) :
    Calls Tryz.prog 20 #[.pointer (some ⟨b, 0, none⟩)] w fun e w' => e = .returned (.int .i64 s.n) ∧ w = w' := by
  have h0 := h.c0
  clear h
  go_enter Tryz.func20, Tryz.ntmps20
  go_wp2
  go_ret
  exact ⟨rfl, rfl⟩

theorem down_nil (w : World) : Calls Tryz.prog 33 #[.pointer none] w fun e w' => e = .returned (.bool false) ∧ w = w' := by
  go_enter Tryz.func33, Tryz.ntmps33
  go_wp2
  go_ret
  exact ⟨rfl, rfl⟩

theorem down_any {w : World} {b ms mo : Nat} {s : DS} (h : DkAt w b ms mo s) :
    Calls Tryz.prog 33 #[.pointer (some ⟨b, 0, none⟩)] w fun e w' => e = .returned (.bool s.down) ∧ w = w' := by
  have h0 := h.c4
  clear h
  go_enter Tryz.func33, Tryz.ntmps33
  go_wp2
  go_ret
  exact ⟨rfl, rfl⟩

/-- a disk that is armed -/
def armS (s : DS) (n : Int) : DS := if s.down then s else { s with armed := max n 0 }

theorem DkAt.set3 {w : World} {b ms mo : Nat} {s : DS} (h : DkAt w b ms mo s) (x : Int) (hx : 0 ≤ x ∧ x ≤ 9223372036854775807) :
    DkAt (w.setCell ⟨b, 3, none⟩ (.int .i64 x)) b ms mo { s with armed := x } := by
  have h1 := heap_setCell_same w b 3 _ _ (.int .i64 x) h.cells
  have hm : Mod (· = b) w (w.setCell ⟨b, 3, none⟩ (.int .i64 x)) := (Mod.refl (· = b) w).setCell (p := ⟨b, 3, none⟩) (.inl rfl) _
  exact ⟨h1, h.safe.keep hm (Ne.symm h.ne.2.1), h.opens.keep hm (Ne.symm h.ne.2.2), h.ne, h.n1, hx⟩

theorem arm_nil (n : Int) (w : World) : Calls Tryz.prog 27 #[.pointer none, .int .i64 n] w fun e w' => e = .returned (.tuple #[]) ∧ w = w' := by
  go_enter Tryz.func27, Tryz.ntmps27
  go_wp2
  go_end0
  exact ⟨rfl, rfl⟩

theorem arm_any {w : World} {b ms mo : Nat} {s : DS} (h : DkAt w b ms mo s) (n : Int) (hn : n ≤ 9223372036854775807) :
    Calls Tryz.prog 27 #[.pointer (some ⟨b, 0, none⟩), .int .i64 n] w fun e w' => e = .returned (.tuple #[]) ∧ DkAt w' b ms mo (armS s n) ∧ Mod (· = b) w w' := by
  have h4 := h.c4
  have h3 := h.c3
  have f3 := h.fz 3
  have hm2 : ∀ x, Mod (· = b) w (w.setCell ⟨b, 3, none⟩ (.int .i64 x)) := fun x => (Mod.refl (· = b) w).setCell (p := ⟨b, 3, none⟩) (.inl rfl) _
  cases hd : s.down with
  | true =>
    rw [hd] at h4
    have HD := Lib.hid h
    have e1 : armS s n = s := by unfold armS; rw [if_pos hd]
    rw [e1]
    clear e1 h hm2 hd
    go_enter Tryz.func27, Tryz.ntmps27
    go_wp2
    go_end0
    exact ⟨rfl, HD.out, Mod.refl _ _⟩
  | false =>
    rw [hd] at h4
    have e1 : armS s n = { s with armed := max n 0 } := by unfold armS; rw [hd]; rfl
    have HD := Lib.hid (fun x hx => h.set3 x hx)
    have HM := Lib.hid hm2
    rw [e1]
    clear e1 h hm2 hd
    go_enter Tryz.func27, Tryz.ntmps27
    go_wp2
    · go_end0
      have e : max n 0 = 0 := by omega
      rw [e]
      exact ⟨rfl, HD.out 0 (by omega), HM.out 0⟩
    · go_end0
      have e : max n 0 = n := by omega
      rw [e]
      exact ⟨rfl, HD.out n (by omega), HM.out n⟩

def ReadPost (s : DS) (n : Int) (w : World) (e : Ending) (w' : World) : Prop :=
  ∃ v, e = .returned (.tuple #[v, .int .i64 0]) ∧ OwnS w' (Fr w) 5 1 v 512 (u8s (latS s n)) ∧ Mod none_ w w'

theorem latS_len {w : World} {b ms mo : Nat} {s : DS} (h : DkAt w b ms mo s) (n : Int) : (latS s n).length = 512 := by
  unfold latS
  cases ho : s.fo n with
  | some l => exact h.opens.len ho
  | none =>
    cases hs : s.fs n with
    | some l => exact h.safe.len hs
    | none => exact zs_length

theorem read_nil (n : Int) (w : World) : Calls Tryz.prog 13 #[.pointer none, .int .i64 n] w fun e w' => e = .returned (.tuple #[.slice none 0 0, .int .i64 1]) ∧ w = w' := by
  go_enter Tryz.func13, Tryz.ntmps13
  go_wp2_with ((with_reducible refine (may_nil _ _).mono ?_); rintro e w' ⟨rfl, rfl⟩)
  go_ret2
  exact ⟨rfl, rfl⟩

theorem read_no {w : World} {b ms mo : Nat} {s : DS} (h : DkAt w b ms mo s) (n : Int) (hn : mayE s n ≠ 0) :
    Calls Tryz.prog 13 #[.pointer (some ⟨b, 0, none⟩), .int .i64 n] w fun e w' => e = .returned (.tuple #[.slice none 0 0, .int .i64 (mayE s n)]) ∧ w = w' := by
  have d1 : (mayE s n != 0) = true := by simpa using hn
  have HD := Lib.hid h
  clear h hn
  go_enter Tryz.func13, Tryz.ntmps13
  go_wp2_with ((with_reducible refine (may_any HD.out _).mono ?_); rintro e w' ⟨rfl, rfl⟩)
  go_ret2
  exact ⟨rfl, rfl⟩

theorem read_ok {w : World} {b ms mo : Nat} {s : DS} (h : DkAt w b ms mo s) (n : Int) (hn : mayE s n = 0) :
    Calls Tryz.prog 13 #[.pointer (some ⟨b, 0, none⟩), .int .i64 n] w (ReadPost s n w) := by
  have d1 : (mayE s n != 0) = false := by simpa using hn
  have HLen := Lib.hid (latS_len h n)
  have HD := Lib.hid h
  clear h hn
  go_enter Tryz.func13, Tryz.ntmps13
  go_wp2_with (first | ((with_reducible refine (may_any HD.out _).mono ?_); rintro e w' ⟨rfl, rfl⟩) | (with_reducible refine at_ (o := ⟨some 7, _, _, _, _, _⟩) ?_) | ((with_reducible refine (latest_any HD.out _).mono ?_); rintro e w' ⟨rfl, hm0⟩))
  have HM0 := Lib.hid hm0
  clear hm0
  refine un (wpList_alloc rfl 64 rfl _ (run_zero _) ?_)
  intro w1 g1 hb1 hm1 hs1
  have HM1 := Lib.hid (HM0.out.trans' hm1)
  have HB1 := Lib.hid hb1
  clear hb1 hm1
  go_wp2_with (with_reducible refine at_ (o := ⟨none, .store _ _ _, _, _, _, _⟩) ?_)
  refine un (wpList_store rfl 64 _ _ rfl g1 rfl (u8s (latS s n)) rfl _ _ HB1.out (by simp [HLen.out, zs_length]) (by rw [zinfo]; simp [HLen.out]) (u8s_one _) ?_)
  intro w2 hb2 hm2
  have HM2 := Lib.hid (HM1.out.trans hm2 (fun r e hr => by subst e; have := HM0.out.size; omega))
  have HB2 := Lib.hid hb2
  clear hb2 hm2
  go_wp2_with (with_reducible refine at_ (o := ⟨some 17, _, _, _, _, _⟩) ?_)
  refine un (wpList_empty rfl 37 rfl eltB (D := Fr w) (Fr.of HM2.out.size) ?_)
  intro v3 w3 ho3 hm3
  have HM3 := Lib.hid (HM2.out.trans' hm3)
  have HB3 := Lib.hid (hm3.get HB2.out fun e => e)
  have HO3 := Lib.hid ho3
  clear ho3 hm3
  go_wp2_with (with_reducible refine at_ (o := ⟨some 19, _, _, _, _, _⟩) ?_)
  refine un (wpList_append rfl _ _ 37 rfl eltB rfl HO3.out rfl (Dx := Fr w) (m := 512) (news := u8s (latS s n)) ⟨_, _, rfl, Nat.le_refl _, by simp [HLen.out], fun _ => ⟨g1, 0, rfl, by have := HM0.out.size; unfold Fr; omega, blk_lt HB3.out, block_cells HB3.out⟩⟩ (u8s_one _) (by omega) (by omega) (Fr.of HM3.out.size) ?_)
  intro v4 w4 ho4 hm4
  have HM4 := Lib.hid (HM3.out.trans hm4 (fun r e hr => by unfold Fr at e; omega))
  have HO4 := Lib.hid ho4
  clear ho4 hm4
  go_wp2
  go_ret2
  exact ⟨v4, rfl, by simpa using HO4.out, HM4.out⟩

end Go.Proofs.YthbicfbhghcmkaaGreat
