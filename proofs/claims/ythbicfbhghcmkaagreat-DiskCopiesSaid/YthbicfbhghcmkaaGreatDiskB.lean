/-
  The disk's methods, one by one: crash, latest, New.
-/
import Derived.Test.YthbicfbhghcmkaaGreatDiskA
import Derived.Test.YthbicfbhghcmkaaGreatOps
namespace Go.Proofs.YthbicfbhghcmkaaGreat
open Go Go.RowKit Go.SM

theorem zinfo : (Tryz.prog.info? 64).map (·.size) = some 512 := by kernel_rfl
theorem zzero : (Tryz.prog.info? 64).bind (·.zero) = some (secV zs) := by kernel_rfl
theorem run_zero (w : World) : (zeroValue 64).run Tryz.prog w = .ok (secV zs) w := by
  obtain ⟨i, hi, hz⟩ := Option.bind_eq_some_iff.1 zzero
  simp [zeroValue, typeInfo, hi, hz]

/-- a disk that counts -/
def crashS (s : DS) : DS := if 0 < s.armed then { s with armed := s.armed - 1, down := decide (s.armed - 1 = 0) } else s

theorem DkAt.set34 {w : World} {b ms mo : Nat} {s : DS} (h : DkAt w b ms mo s) (x : Int) (d : Bool) (hx : 0 ≤ x ∧ x ≤ 9223372036854775807) :
    DkAt ((w.setCell ⟨b, 3, none⟩ (.int .i64 x)).setCell ⟨b, 4, none⟩ (.bool d)) b ms mo { s with armed := x, down := d } := by
  have h1 := heap_setCell_same w b 3 _ _ (.int .i64 x) h.cells
  have h2 := heap_setCell_same _ b 4 _ _ (.bool d) h1
  have hm : Mod (· = b) w ((w.setCell ⟨b, 3, none⟩ (.int .i64 x)).setCell ⟨b, 4, none⟩ (.bool d)) :=
    ((Mod.refl (· = b) w).setCell (p := ⟨b, 3, none⟩) (.inl rfl) _).setCell (p := ⟨b, 4, none⟩) (.inl rfl) _
  exact ⟨h2, h.safe.keep hm (Ne.symm h.ne.2.1), h.opens.keep hm (Ne.symm h.ne.2.2), h.ne, h.n1, hx⟩

theorem crash_any {w : World} {b ms mo : Nat} {s : DS} (h : DkAt w b ms mo s) :
    Calls Tryz.prog 40 #[.pointer (some ⟨b, 0, none⟩)] w fun e w' => e = .returned (.bool (crashS s).down) ∧ DkAt w' b ms mo (crashS s) ∧ Mod (· = b) w w' ∧ w'.heap.size = w.heap.size := by
  have h3 := h.c3
  have h4 := h.c4
  have f3 := h.fz 3
  have f4 := h.fz 4
  have ha := h.arm
  have hm2 : Mod (· = b) w ((w.setCell ⟨b, 3, none⟩ (.int .i64 (s.armed - 1))).setCell ⟨b, 4, none⟩ (.bool (s.armed - 1 == 0))) :=
    ((Mod.refl (· = b) w).setCell (p := ⟨b, 3, none⟩) (.inl rfl) _).setCell (p := ⟨b, 4, none⟩) (.inl rfl) _
  by_cases hp : 0 < s.armed
  · have HD := Lib.hid (h.set34 (s.armed - 1) (s.armed - 1 == 0) (by omega))
    have HM := Lib.hid hm2
    have e1 : crashS s = { s with armed := s.armed - 1, down := (s.armed - 1 == 0) } := by unfold crashS; rw [if_pos hp]; rfl
    rw [e1]
    clear e1 h hm2
    go_enter Tryz.func40, Tryz.ntmps40
    go_wp2
    go_ret
    exact ⟨rfl, HD.out, HM.out, by simp⟩
  · have HD := Lib.hid h
    have e1 : crashS s = s := by unfold crashS; rw [if_neg hp]
    have d1 : decide (0 < s.armed) = false := by simpa using hp
    rw [e1]
    clear e1 h hm2
    go_enter Tryz.func40, Tryz.ntmps40
    go_wp2
    go_ret
    exact ⟨rfl, HD.out, Mod.refl _ _, rfl⟩

/-- a sector's latest bytes -/
def latS (s : DS) (n : Int) : List UInt8 := (s.fo n).getD ((s.fs n).getD zs)

theorem latest_any {w : World} {b ms mo : Nat} {s : DS} (h : DkAt w b ms mo s) (n : Int) :
    Calls Tryz.prog 37 #[.pointer (some ⟨b, 0, none⟩), .int .i64 n] w fun e w' => e = .returned (secV (latS s n)) ∧ Mod none_ w w' := by
  have hlt := h.own_lt
  cases hf : s.fo n with
  | some l =>
    have HL := Lib.hid (show latS s n = l by unfold latS; rw [hf]; rfl)
    have HK := Lib.hid (show lookV true (s.fo n) = .tuple #[secV l, .bool true] by rw [hf]; rfl)
    have HLen := Lib.hid (h.opens.len hf)
    have HD := Lib.hid h
    clear hf h
    go_enter Tryz.func37, Tryz.ntmps37
    go_wp2_with (with_reducible refine at_ (o := ⟨some 4, .alloc _, _, _, _, _⟩) ?_)
    refine un (wpList_alloc rfl 64 rfl _ (run_zero _) ?_)
    intro w1 g1 hb1 hm1 hs1
    have HD1 := Lib.hid (HD.out.keep hm1 fun _ _ e => e)
    have h2 := HD1.out.c2
    have HB1 := Lib.hid hb1
    have HM1 := Lib.hid hm1
    clear hb1 hm1
    go_wp2_with (with_reducible refine at_ (o := ⟨some 13, _, _, _, _, _⟩) ?_)
    refine un (wpList_look rfl 46 _ _ true rfl 3 64 .i64 Tryz.underlying46 Tryz.underlying3 (run_zero _) mo s.fo n rfl rfl HD1.out.opens ?_)
    rw [HK.out]
    go_wp2_with (with_reducible refine at_ (o := ⟨some 5, .alloc _, _, _, _, _⟩) ?_)
    refine un (wpList_alloc rfl 64 rfl _ (run_zero _) ?_)
    intro w2 g2 hb2 hm2 hs2
    have HM2 := Lib.hid (HM1.out.trans' hm2)
    have z1 : g1 < w1.heap.size := blk_lt HB1.out
    have z2 := HM1.out.size
    have HB1' := Lib.hid (hm2.get HB1.out fun e => e)
    have HB2 := Lib.hid hb2
    clear hb2 hm2
    go_wp2_with (with_reducible refine at_ (o := ⟨none, .store _ _ _, _, _, _, _⟩) ?_)
    refine un (wpList_store rfl 64 _ _ rfl g2 rfl (u8s l) rfl _ _ HB2.out (by simp [HLen.out, zs_length]) (by rw [zinfo]; simp [HLen.out]) (u8s_one l) ?_)
    intro w3 hb3 hm3
    have HM3 := Lib.hid (HM2.out.trans hm3 (fun r e hr => by subst e; omega))
    have HB1'' := Lib.hid (hm3.get HB1'.out (by omega))
    have HB3 := Lib.hid hb3
    clear hb3 hm3
    go_wp2_with (with_reducible refine at_ (o := ⟨some 17, .load _ _, _, _, _, _⟩) ?_)
    refine un (wpList_load rfl 64 _ rfl g2 0 rfl (u8s l) _ Tryz.underlying64 rfl (block_cells HB3.out) (by rw [zinfo]; simp [HLen.out]) ?_)
    go_wp2_with (with_reducible refine at_ (o := ⟨none, .store _ _ _, _, _, _, _⟩) ?_)
    refine un (wpList_store rfl 64 _ _ rfl g1 rfl (u8s l) rfl _ _ HB1''.out (by simp [HLen.out, zs_length]) (by rw [zinfo]; simp [HLen.out]) (u8s_one l) ?_)
    intro w4 hb4 hm4
    have HM4 := Lib.hid (HM3.out.trans hm4 (fun r e hr => by subst e; omega))
    have HB4 := Lib.hid hb4
    clear hb4 hm4
    go_wp2
    refine bodyPost_ret (v := secV l) (results_cell_row rfl _ _ g1 _ _ _ _ rfl HB4.out Tryz.underlying64 rfl (by rw [zinfo]; simp [HLen.out])) rfl ⟨by rw [HL.out], HM4.out⟩
  | none =>
    have HL := Lib.hid (show latS s n = (s.fs n).getD zs by unfold latS; rw [hf]; rfl)
    have HK := Lib.hid (show lookV true (s.fo n) = .tuple #[secV zs, .bool false] by rw [hf]; rfl)
    have HK2 := Lib.hid (show lookV false (s.fs n) = secV ((s.fs n).getD zs) from rfl)
    have HLen := Lib.hid (show ((s.fs n).getD zs).length = 512 by
      cases hs : s.fs n with
      | none => exact zs_length
      | some l => exact h.safe.len hs)
    have HD := Lib.hid h
    clear hf h
    go_enter Tryz.func37, Tryz.ntmps37
    go_wp2_with (with_reducible refine at_ (o := ⟨some 4, .alloc _, _, _, _, _⟩) ?_)
    refine un (wpList_alloc rfl 64 rfl _ (run_zero _) ?_)
    intro w1 g1 hb1 hm1 hs1
    have HD1 := Lib.hid (HD.out.keep hm1 fun _ _ e => e)
    have h2 := HD1.out.c2
    have HB1 := Lib.hid hb1
    have HM1 := Lib.hid hm1
    clear hb1 hm1
    go_wp2_with (with_reducible refine at_ (o := ⟨some 13, _, _, _, _, _⟩) ?_)
    refine un (wpList_look rfl 46 _ _ true rfl 3 64 .i64 Tryz.underlying46 Tryz.underlying3 (run_zero _) mo s.fo n rfl rfl HD1.out.opens ?_)
    rw [HK.out]
    go_wp2_with (with_reducible refine at_ (o := ⟨some 5, .alloc _, _, _, _, _⟩) ?_)
    refine un (wpList_alloc rfl 64 rfl _ (run_zero _) ?_)
    intro w2 g2 hb2 hm2 hs2
    have HM2 := Lib.hid (HM1.out.trans' hm2)
    have z1 : g1 < w1.heap.size := blk_lt HB1.out
    have z2 := HM1.out.size
    have HB1' := Lib.hid (hm2.get HB1.out fun e => e)
    have HD2 := Lib.hid (HD1.out.keep hm2 fun _ _ e => e)
    have HB2 := Lib.hid hb2
    clear hb2 hm2
    go_wp2_with (with_reducible refine at_ (o := ⟨none, .store _ _ _, _, _, _, _⟩) ?_)
    refine un (wpList_store rfl 64 _ _ rfl g2 rfl (u8s zs) rfl _ _ HB2.out (by simp) (by rw [zinfo]; simp [zs_length]) (u8s_one zs) ?_)
    intro w3 hb3 hm3
    have HM3 := Lib.hid (HM2.out.trans hm3 (fun r e hr => by subst e; omega))
    have HB1'' := Lib.hid (hm3.get HB1'.out (by omega))
    have HD3 := Lib.hid (HD2.out.keep hm3 (by rintro r hr rfl; have := HD.out.own_lt _ hr; omega))
    have h1' := HD3.out.c1
    clear hb3 hm3
    go_wp2_with (with_reducible refine at_ (o := ⟨some 23, _, _, _, _, _⟩) ?_)
    refine un (wpList_look rfl 46 _ _ false rfl 3 64 .i64 Tryz.underlying46 Tryz.underlying3 (run_zero _) ms s.fs n rfl rfl HD3.out.safe ?_)
    rw [HK2.out]
    go_wp2_with (with_reducible refine at_ (o := ⟨none, .store _ _ _, _, _, _, _⟩) ?_)
    refine un (wpList_store rfl 64 _ _ rfl g1 rfl (u8s ((s.fs n).getD zs)) rfl _ _ HB1''.out (by simp [HLen.out, zs_length]) (by rw [zinfo]; simp [HLen.out]) (u8s_one _) ?_)
    intro w4 hb4 hm4
    have HM4 := Lib.hid (HM3.out.trans hm4 (fun r e hr => by subst e; omega))
    have HB4 := Lib.hid hb4
    clear hb4 hm4
    go_wp2
    refine bodyPost_ret (v := secV ((s.fs n).getD zs)) (results_cell_row rfl _ _ g1 _ _ _ _ rfl HB4.out Tryz.underlying64 rfl (by rw [zinfo]; simp [HLen.out])) rfl ⟨by rw [HL.out], HM4.out⟩

end Go.Proofs.YthbicfbhghcmkaaGreat
