/-
  The disk's Copy.
-/
import Derived.Test.YthbicfbhghcmkaaGreatLive
import Derived.Deep.RegionHeld3
import Derived.Deep.DeepCutAuto
namespace Go.Proofs.YthbicfbhghcmkaaGreat
open Go Go.RowKit Go.SM

theorem over_none (f : Int → Option (List UInt8)) : over f (fun _ => none) = f := by
  funext k
  unfold over
  cases f k <;> rfl

theorem set34a {w : World} {b ms mo : Nat} {s t : DS} (h : DkAt w b ms mo s) (ht : 0 ≤ t.armed ∧ t.armed ≤ 9223372036854775807) :
    DkAt ((w.setCell ⟨b, 3, none⟩ (.int .i64 t.armed)).setCell ⟨b, 4, none⟩ (.bool t.down)) b ms mo { s with armed := t.armed, down := t.down } := by
  have h1 := heap_setCell_same w b 3 _ _ (.int .i64 t.armed) h.cells
  have h2 := heap_setCell_same _ b 4 _ _ (.bool t.down) h1
  have hm : Mod (· = b) w ((w.setCell ⟨b, 3, none⟩ (.int .i64 t.armed)).setCell ⟨b, 4, none⟩ (.bool t.down)) :=
    ((Mod.refl (· = b) w).setCell (p := ⟨b, 3, none⟩) (.inl rfl) _).setCell (p := ⟨b, 4, none⟩) (.inl rfl) _
  exact ⟨h2, h.safe.keep hm (Ne.symm h.ne.2.1), h.opens.keep hm (Ne.symm h.ne.2.2), h.ne, h.n1, ht⟩
theorem set34b {w : World} {b ms mo : Nat} {s t : DS} (h : DkAt w b ms mo s) (ht : 0 ≤ t.armed ∧ t.armed ≤ 9223372036854775807) :
    DkAt ((w.setCell ⟨b, 4, none⟩ (.bool t.down)).setCell ⟨b, 3, none⟩ (.int .i64 t.armed)) b ms mo { s with armed := t.armed, down := t.down } := by
  have h1 := heap_setCell_same w b 4 _ _ (.bool t.down) h.cells
  have h2 := heap_setCell_same _ b 3 _ _ (.int .i64 t.armed) h1
  have hm : Mod (· = b) w ((w.setCell ⟨b, 4, none⟩ (.bool t.down)).setCell ⟨b, 3, none⟩ (.int .i64 t.armed)) :=
    ((Mod.refl (· = b) w).setCell (p := ⟨b, 4, none⟩) (.inl rfl) _).setCell (p := ⟨b, 3, none⟩) (.inl rfl) _
  exact ⟨h2, h.safe.keep hm (Ne.symm h.ne.2.1), h.opens.keep hm (Ne.symm h.ne.2.2), h.ne, h.n1, ht⟩

set_option maxHeartbeats 4000000 in
set_option maxRecDepth 100000 in
theorem copy_any {w : World} {b ms mo : Nat} {s : DS} (h : DkAt w b ms mo s) :
    Calls Tryz.prog 9 #[.pointer (some ⟨b, 0, none⟩)] w fun e w' => ∃ b2 ms2 mo2, e = .returned (.pointer (some ⟨b2, 0, none⟩)) ∧ DkAt w' b2 ms2 mo2 s ∧ Mod none_ w w' ∧ w.heap.size ≤ b2 ∧ w.heap.size ≤ ms2 ∧ w.heap.size ≤ mo2 := by
  have hN : (s.n == 0) = false := by have := h.n1; rw [beq_eq_false_iff_ne]; omega
  have h0 := h.c0
  have HD := Lib.hid h
  clear h
  go_enter Tryz.func9, Tryz.ntmps9
  go_wp2_with fail
  refine (new_yes s.n _ HD.out.n1).mono ?_
  rintro e w1 ⟨b2, ms2, mo2, rfl, hd1, hm1, hz⟩
  have HZ := Lib.hid hz
  have HM1 := Lib.hid hm1
  have HD1 := Lib.hid (HD.out.keep hm1 (fun _ _ e => e))
  have HE1 := Lib.hid hd1
  clear hd1 hm1 hz h0
  go_upto_region 4 with fail
  go_cut [] (fun wx => DkAt wx b2 ms2 mo2 { newS s.n with armed := s.armed, down := s.down } ∧ Mod (dkOwn b2 ms2 mo2) w1 wx)
  case first =>
    have q3 := HD1.out.c3
    have q4 := HD1.out.c4
    have p3 := HE1.out.c3
    have p4 := HE1.out.c4
    have f3 := HE1.out.fz 3
    have f4 := HE1.out.fz 4
    have hne : b ≠ b2 := fun e => by have := HD.out.own_lt b (.inl rfl); have := HZ.out.1; omega
    have hK : ∀ W : World, (W.cell? ⟨b, 3, none⟩ = some (.int .i64 s.armed) ∧ W.cell? ⟨b, 4, none⟩ = some (.bool s.down)) → ∀ u i, ((W.setCell ⟨b2, i, none⟩ u).cell? ⟨b, 3, none⟩ = some (.int .i64 s.armed) ∧ (W.setCell ⟨b2, i, none⟩ u).cell? ⟨b, 4, none⟩ = some (.bool s.down)) := fun W hW u i => by
      have hm := (Mod.refl (· = b2) W).setCell (p := ⟨b2, i, none⟩) (.inl rfl) u
      exact ⟨hm.cell_eq hW.1 (fun e => hne e), hm.cell_eq hW.2 (fun e => hne e)⟩
    have HK := Lib.hid hK
    have HA := Lib.hid (set34a (t := s) HE1.out HD.out.arm)
    have HB := Lib.hid (set34b (t := s) HE1.out HD.out.arm)
    clear hK hne
    have hS0 : w1.drew.cell? ⟨b, 3, none⟩ = some (.int .i64 s.armed) ∧ w1.drew.cell? ⟨b, 4, none⟩ = some (.bool s.down) := ⟨q3, q4⟩
    go_region_held3 (fun W : World => W.cell? ⟨b, 3, none⟩ = some (.int .i64 s.armed) ∧ W.cell? ⟨b, 4, none⟩ = some (.bool s.down))
      (first | exact hS0 | exact HK.out _ hS0 _ _ | exact HK.out _ (HK.out _ hS0 _ _) _ _)
      (fail)
    all_goals
      go_wp2_with fail
      go_meet
      first
        | exact ⟨HA.out.keep ((Mod.refl none_ _).drew) (fun _ _ e => e), (((Mod.refl _ w1).setCell (p := ⟨b2, 3, none⟩) (.inl (.inl rfl)) _).setCell (p := ⟨b2, 4, none⟩) (.inl (.inl rfl)) _).drew⟩
        | exact ⟨HB.out.keep ((Mod.refl none_ _).drew) (fun _ _ e => e), (((Mod.refl _ w1).setCell (p := ⟨b2, 4, none⟩) (.inl (.inl rfl)) _).setCell (p := ⟨b2, 3, none⟩) (.inl (.inl rfl)) _).drew⟩
  case rest =>
    obtain ⟨hd2, hm2⟩ := hcut
    have HM2 := Lib.hid (modOwn HM1.out hm2 ⟨HZ.out.1, HZ.out.2.1, HZ.out.2.2⟩)
    have HD2 := Lib.hid (HD.out.keep HM2.out (fun _ _ e => e))
    have HE2 := Lib.hid hd2
    have q1 := HD2.out.c1
    clear hd2 hm2 HD1 HE1 HM1
    go_wp2_with (with_reducible refine at_ (o := ⟨some 40, _, _, _, _, _⟩) ?_)
    obtain ⟨ts, clk, hb, he⟩ := HD2.out.safe
    have HF := Lib.hid he
    have HB := Lib.hid hb
    clear he hb
    refine un (wpList_range rfl 46 _ rfl 3 64 Tryz.underlying46 rfl HB.out HF.out ?_)
    intro w3 r hi3 hm3 hr3
    have HG3 := Lib.hid (show Going wc w3 r b2 ms2 ms (dkCells ms2 mo2 { newS s.n with armed := s.armed, down := s.down }) ts clk (fun _ => none) (fun k => k = ms2 ∨ wc.heap.size ≤ k) [] from
      ⟨hi3, by simp, by simp, by rw [overT_nil]; exact HE2.out.safe.keep hm3 (fun e => e), hm3.get HE2.out.cells (fun e => e), hm3.mono fun _ _ e => e.elim⟩)
    clear hi3 hm3 q1
    go_frame
    go_wp2_with fail
    go_loopw [] (fun wr => ∃ seen, Going wc wr r b2 ms2 ms (dkCells ms2 mo2 { newS s.n with armed := s.armed, down := s.down }) ts clk (fun _ => none) (fun k => k = ms2 ∨ wc.heap.size ≤ k) seen) (fun wr => ts.length - seenOf wr r)
    case atStart => exact ⟨[], HG3.out⟩
    case round =>
      obtain ⟨seen, hg⟩ := hrel
      have HG := Lib.hid hg
      clear hg HG3
      go_wp2_with (with_reducible refine at_ (o := ⟨some 41, _, _, _, _, _⟩) ?_)
      refine un (wpList_next rfl _ rfl rfl HG.out.it ?_ ?_)
      · intro hall
        have HA := Lib.hid hall
        clear hall
        go_frame
        have HS5 := Lib.hid (show MapIs wr ms2 s.fs from by rw [← over_none s.fs, ← overT_all HF.out HA.out _]; exact HG.out.map)
        have HM5 := Lib.hid (HM2.out.trans HG.out.mod (fun k e hk => by have := HZ.out; have := HM2.out.size; omega))
        have HD5 := Lib.hid (HD.out.keep HM5.out (fun _ _ e => e))
        have HO5 := Lib.hid (HE2.out.opens.keep HG.out.mod (fun e => by have := HE2.out.ne; have := HE2.out.own_lt mo2 (.inr (.inr rfl)); omega))
        have HC5 := Lib.hid HG.out.cells
        have HG3s := Lib.hid HG.out.mod.size
        have HE5 := Lib.hid (show DkAt wr b2 ms2 mo2 { newS s.n with armed := s.armed, down := s.down, fs := s.fs } from ⟨HG.out.cells, HS5.out, HO5.out, HE2.out.ne, HD.out.n1, HD.out.arm⟩)
        have q2 := HD5.out.c2
        obtain ⟨w5', hw5⟩ : ∃ w5', wr = w5' := ⟨_, rfl⟩
        subst hw5
        clear HG HA
        go_wp2_with (with_reducible refine at_ (o := ⟨some 56, _, _, _, _, _⟩) ?_)
        obtain ⟨ts', clk', hb, he⟩ := HD5.out.opens
        have HF' := Lib.hid he
        have HB' := Lib.hid hb
        clear he hb
        refine un (wpList_range rfl 46 _ rfl 3 64 Tryz.underlying46 rfl HB'.out HF'.out ?_)
        intro w6 r' hi6 hm6 hr6
        have HG6 := Lib.hid (show Going wr w6 r' b2 mo2 mo (dkCells ms2 mo2 { newS s.n with armed := s.armed, down := s.down }) ts' clk' (fun _ => none) (fun k => k = mo2 ∨ wr.heap.size ≤ k) [] from
          ⟨hi6, by simp, by simp, by rw [overT_nil]; exact HO5.out.keep hm6 (fun e => e), hm6.get HC5.out (fun e => e), hm6.mono fun _ _ e => e.elim⟩)
        clear hi6 hm6 q2
        obtain ⟨w5', hw5⟩ : ∃ w5', w5' = wr := ⟨_, rfl⟩
        rw [← hw5] at HG6 HM5 HD5 HO5 HC5 HE5 HS5 HG3s HB' hr6
        clear hw5
        go_frame
        go_wp2_with fail
        go_loopw [] (fun wr => ∃ seen, Going w5' wr r' b2 mo2 mo (dkCells ms2 mo2 { newS s.n with armed := s.armed, down := s.down }) ts' clk' (fun _ => none) (fun k => k = mo2 ∨ w5'.heap.size ≤ k) seen) (fun wr => ts'.length - seenOf wr r')
        case atStart => exact ⟨[], HG6.out⟩
        case round =>
          obtain ⟨seen, hg⟩ := hrel
          have HG := Lib.hid hg
          clear hg HG6
          go_wp2_with (with_reducible refine at_ (o := ⟨some 57, _, _, _, _, _⟩) ?_)
          refine un (wpList_next rfl _ rfl rfl HG.out.it ?_ ?_)
          · intro hall
            have HA := Lib.hid hall
            clear hall
            go_frame
            have HMA := Lib.hid (show MapIs wr mo2 s.fo from by rw [← over_none s.fo, ← overT_all HF'.out HA.out _]; exact HG.out.map)
            have HC := Lib.hid HG.out.cells
            have HMF := Lib.hid (HM5.out.trans HG.out.mod (fun k e hk => by have := HZ.out; have := HM5.out.size; omega))
            have HSF := Lib.hid (HS5.out.keep HG.out.mod (fun e => by have := HE2.out.ne; have := HE2.out.own_lt ms2 (.inr (.inl rfl)); have := HG3s.out; omega))
            go_wp2_with fail
            go_ret
            exact ⟨b2, ms2, mo2, rfl, ⟨HC.out, HSF.out, HMA.out, HE2.out.ne, HD.out.n1, HD.out.arm⟩, HMF.out, HZ.out⟩
          · intro x w4 hx hns hi4 hm4
            have z2 := HE5.out.own_lt
            have hr4 : r' < wr.heap.size := blk_lt HG.out.it.1
            have zr : ∀ k, dkOwn b2 ms2 mo2 k → ¬ k = r' := fun k hk e => by have := z2 k hk; omega
            have HX := Lib.hid (And.intro hx hns)
            have HI4 := Lib.hid hi4
            have HG4 := Lib.hid (show MapIs w4 mo2 (overT ts' seen (fun _ => none)) ∧ w4.heap[b2]? = some (.cells (dkCells ms2 mo2 { newS s.n with armed := s.armed, down := s.down }) 48 (0, 0)) ∧ Mod (fun k => k = mo2 ∨ w5'.heap.size ≤ k) w5' w4 from
              ⟨HG.out.map.keep hm4 (zr mo2 (.inr (.inr rfl))), hm4.get HG.out.cells (zr b2 (.inl rfl)), HG.out.mod.trans hm4 fun k e _ => .inr (by omega)⟩)
            clear hx hns hi4 hm4 z2 zr
            go_frame
            go_wp2_with (with_reducible refine at_ (o := ⟨some 59, _, _, _, _, _⟩) ?_)
            refine un (wpList_entry rfl _ rfl rfl HX.out.1 HI4.out ?_)
            go_frame
            go_wp2_with (with_reducible refine at_ (o := ⟨some 7, .alloc _, _, _, _, _⟩) ?_)
            refine un (wpList_alloc rfl 64 rfl _ (run_zero _) ?_)
            intro w5 g5 hb5 hm5 hs5
            have HI5 := Lib.hid (HI4.out.keep hm5 (fun e => e) (fun e => e))
            have HG5 := Lib.hid (show MapIs w5 mo2 (overT ts' seen (fun _ => none)) ∧ w5.heap[b2]? = some (.cells (dkCells ms2 mo2 { newS s.n with armed := s.armed, down := s.down }) 48 (0, 0)) ∧ Mod (fun k => k = mo2 ∨ w5'.heap.size ≤ k) w5' w5 from
              ⟨HG4.out.1.keep hm5 (fun e => e), hm5.get HG4.out.2.1 (fun e => e), HG4.out.2.2.trans hm5 fun k e _ => e.elim⟩)
            have HB5 := Lib.hid hb5
            have z5 : w5'.heap.size ≤ g5 := Nat.le_trans HG4.out.2.2.size hs5
            have z6 : r' < g5 := Nat.lt_of_lt_of_le (blk_lt HI4.out.1) hs5
            have z7 : mo < g5 := Nat.lt_of_lt_of_le (blk_lt HI4.out.2.1) hs5
            clear hb5 hm5
            have HLen := Lib.hid (show x.2.1.length = 512 from HF'.out.len x HX.out.1)
            go_frame
            go_wp2_with (with_reducible refine at_ (o := ⟨none, .store _ _ _, _, _, _, _⟩) ?_)
            refine un (wpList_store rfl 64 _ _ rfl g5 rfl (u8s x.2.1) rfl _ _ HB5.out (by simp [HLen.out, zs_length]) (by rw [zinfo]; simp [HLen.out]) (u8s_one _) ?_)
            intro w6 hb6 hm6
            have z2 := HE5.out.own_lt
            have zr : ∀ k, dkOwn b2 ms2 mo2 k → ¬ k = g5 := fun k hk e => by have := z2 k hk; omega
            have HI6 := Lib.hid (HI5.out.keep hm6 (by omega) (by omega))
            have HG6 := Lib.hid (show MapIs w6 mo2 (overT ts' seen (fun _ => none)) ∧ w6.heap[b2]? = some (.cells (dkCells ms2 mo2 { newS s.n with armed := s.armed, down := s.down }) 48 (0, 0)) ∧ Mod (fun k => k = mo2 ∨ w5'.heap.size ≤ k) w5' w6 from
              ⟨HG5.out.1.keep hm6 (zr mo2 (.inr (.inr rfl))), hm6.get HG5.out.2.1 (zr b2 (.inl rfl)), HG5.out.2.2.trans hm6 fun k e _ => .inr (by omega)⟩)
            have HB6 := Lib.hid hb6
            have c1 : w6.cell? ⟨b2, 2, none⟩ = some (.map (some mo2)) := by rw [cell_of_row w6 b2 2 _ _ _ HG6.out.2.1]; rfl
            clear hb6 hm6 z2 zr
            go_frame
            go_wp2_with fail
            refine wp_region_still_tail 6 (by kernel_rfl) (by kernel_rfl) ?_
            simp only [List.take_succ_cons, List.take_zero, List.drop_succ_cons, List.drop_zero]
            iterate 5 still_step
            refine wpStill_load rfl 64 _ rfl g5 0 rfl (u8s x.2.1) _ Tryz.underlying64 rfl (block_cells HB6.out) (by rw [zinfo]; simp [HLen.out]) ?_
            refine wpStill_nil ?_
            refine wpList_update rfl 46 _ _ _ rfl 3 64 .i64 Tryz.underlying46 Tryz.underlying3 mo2 _ x.1 x.2.1 HLen.out rfl rfl rfl (show MapIs w6.drew mo2 _ from HG6.out.1) ?_
            intro w7 hm7 hmod7
            have hmod7' : Mod (· = mo2) w6 w7 := ⟨hmod7.os, hmod7.tape, hmod7.output, hmod7.size, hmod7.block⟩
            have HG7 := Lib.hid (show Going w5' w7 r' b2 mo2 mo (dkCells ms2 mo2 { newS s.n with armed := s.armed, down := s.down }) ts' clk' (fun _ => none) (fun k => k = mo2 ∨ w5'.heap.size ≤ k) (seen ++ [x.2.2]) from
              ⟨HI6.out.keep hmod7' (fun e => by have := HE5.out.own_lt mo2 (.inr (.inr rfl)); omega) (fun e => by have := HD.out.own_lt mo (.inr (.inr rfl)); have := HZ.out; omega),
               by rw [List.nodup_append]; exact ⟨HG.out.nodup, by simp, fun a ha b' hb' e => by simp at hb'; exact HX.out.2 (by rw [← hb', ← e]; exact ha)⟩,
               fun y hy => by
                rcases List.mem_append.1 hy with hy | hy
                · exact HG.out.sub y hy
                · simp at hy; rw [hy]; exact List.mem_map_of_mem (f := fun t : Tri => t.2.2) HX.out.1,
               by rw [← overT_step HF'.out.keys HF'.out.stamps HX.out.1]; exact hm7,
               hmod7'.get HG6.out.2.1 (fun e => HE2.out.ne.2.2 e), HG6.out.2.2.trans hmod7' fun k e _ => .inl e⟩)
            clear hm7 hmod7 hmod7' c1
            go_frame
            go_wp2_with fail
            go_roundw
            case rel => exact ⟨_, HG7.out⟩
            case measure =>
              have e1 := HG.out.it.seenOf
              have e2 := HG7.out.it.seenOf
              have hle := nodup_le HG7.out.nodup HG7.out.sub
              simp only [List.length_append, List.length_map, List.length_cons, List.length_nil] at e2 hle
              omega

      · intro x w4 hx hns hi4 hm4
        have z2 := HE2.out.own_lt
        have hr4 : r < wr.heap.size := blk_lt HG.out.it.1
        have zr : ∀ k, dkOwn b2 ms2 mo2 k → ¬ k = r := fun k hk e => by have := z2 k hk; omega
        have HX := Lib.hid (And.intro hx hns)
        have HI4 := Lib.hid hi4
        have HG4 := Lib.hid (show MapIs w4 ms2 (overT ts seen (fun _ => none)) ∧ w4.heap[b2]? = some (.cells (dkCells ms2 mo2 { newS s.n with armed := s.armed, down := s.down }) 48 (0, 0)) ∧ Mod (fun k => k = ms2 ∨ wc.heap.size ≤ k) wc w4 from
          ⟨HG.out.map.keep hm4 (zr ms2 (.inr (.inl rfl))), hm4.get HG.out.cells (zr b2 (.inl rfl)), HG.out.mod.trans hm4 fun k e _ => .inr (by omega)⟩)
        clear hx hns hi4 hm4 z2 zr
        go_frame
        go_wp2_with (with_reducible refine at_ (o := ⟨some 43, _, _, _, _, _⟩) ?_)
        refine un (wpList_entry rfl _ rfl rfl HX.out.1 HI4.out ?_)
        go_frame
        go_wp2_with (with_reducible refine at_ (o := ⟨some 5, .alloc _, _, _, _, _⟩) ?_)
        refine un (wpList_alloc rfl 64 rfl _ (run_zero _) ?_)
        intro w5 g5 hb5 hm5 hs5
        have HI5 := Lib.hid (HI4.out.keep hm5 (fun e => e) (fun e => e))
        have HG5 := Lib.hid (show MapIs w5 ms2 (overT ts seen (fun _ => none)) ∧ w5.heap[b2]? = some (.cells (dkCells ms2 mo2 { newS s.n with armed := s.armed, down := s.down }) 48 (0, 0)) ∧ Mod (fun k => k = ms2 ∨ wc.heap.size ≤ k) wc w5 from
          ⟨HG4.out.1.keep hm5 (fun e => e), hm5.get HG4.out.2.1 (fun e => e), HG4.out.2.2.trans hm5 fun k e _ => e.elim⟩)
        have HB5 := Lib.hid hb5
        have z5 : wc.heap.size ≤ g5 := Nat.le_trans HG4.out.2.2.size hs5
        have z6 : r < g5 := Nat.lt_of_lt_of_le (blk_lt HI4.out.1) hs5
        have z7 : ms < g5 := Nat.lt_of_lt_of_le (blk_lt HI4.out.2.1) hs5
        clear hb5 hm5
        have HLen := Lib.hid (show x.2.1.length = 512 from HF.out.len x HX.out.1)
        go_frame
        go_wp2_with (with_reducible refine at_ (o := ⟨none, .store _ _ _, _, _, _, _⟩) ?_)
        refine un (wpList_store rfl 64 _ _ rfl g5 rfl (u8s x.2.1) rfl _ _ HB5.out (by simp [HLen.out, zs_length]) (by rw [zinfo]; simp [HLen.out]) (u8s_one _) ?_)
        intro w6 hb6 hm6
        have z2 := HE2.out.own_lt
        have zr : ∀ k, dkOwn b2 ms2 mo2 k → ¬ k = g5 := fun k hk e => by have := z2 k hk; omega
        have HI6 := Lib.hid (HI5.out.keep hm6 (by omega) (by omega))
        have HG6 := Lib.hid (show MapIs w6 ms2 (overT ts seen (fun _ => none)) ∧ w6.heap[b2]? = some (.cells (dkCells ms2 mo2 { newS s.n with armed := s.armed, down := s.down }) 48 (0, 0)) ∧ Mod (fun k => k = ms2 ∨ wc.heap.size ≤ k) wc w6 from
          ⟨HG5.out.1.keep hm6 (zr ms2 (.inr (.inl rfl))), hm6.get HG5.out.2.1 (zr b2 (.inl rfl)), HG5.out.2.2.trans hm6 fun k e _ => .inr (by omega)⟩)
        have HB6 := Lib.hid hb6
        have c1 : w6.cell? ⟨b2, 1, none⟩ = some (.map (some ms2)) := by rw [cell_of_row w6 b2 1 _ _ _ HG6.out.2.1]; rfl
        clear hb6 hm6 z2 zr
        go_frame
        go_wp2_with fail
        refine wp_region_still_tail 6 (by kernel_rfl) (by kernel_rfl) ?_
        simp only [List.take_succ_cons, List.take_zero, List.drop_succ_cons, List.drop_zero]
        iterate 5 still_step
        refine wpStill_load rfl 64 _ rfl g5 0 rfl (u8s x.2.1) _ Tryz.underlying64 rfl (block_cells HB6.out) (by rw [zinfo]; simp [HLen.out]) ?_
        refine wpStill_nil ?_
        refine wpList_update rfl 46 _ _ _ rfl 3 64 .i64 Tryz.underlying46 Tryz.underlying3 ms2 _ x.1 x.2.1 HLen.out rfl rfl rfl (show MapIs w6.drew ms2 _ from HG6.out.1) ?_
        intro w7 hm7 hmod7
        have hmod7' : Mod (· = ms2) w6 w7 := ⟨hmod7.os, hmod7.tape, hmod7.output, hmod7.size, hmod7.block⟩
        have HG7 := Lib.hid (show Going wc w7 r b2 ms2 ms (dkCells ms2 mo2 { newS s.n with armed := s.armed, down := s.down }) ts clk (fun _ => none) (fun k => k = ms2 ∨ wc.heap.size ≤ k) (seen ++ [x.2.2]) from
          ⟨HI6.out.keep hmod7' (fun e => by have := HE2.out.own_lt ms2 (.inr (.inl rfl)); omega) (fun e => by have := HD.out.own_lt ms (.inr (.inl rfl)); have := HZ.out; omega),
           by rw [List.nodup_append]; exact ⟨HG.out.nodup, by simp, fun a ha b' hb' e => by simp at hb'; exact HX.out.2 (by rw [← hb', ← e]; exact ha)⟩,
           fun y hy => by
            rcases List.mem_append.1 hy with hy | hy
            · exact HG.out.sub y hy
            · simp at hy; rw [hy]; exact List.mem_map_of_mem (f := fun t : Tri => t.2.2) HX.out.1,
           by rw [← overT_step HF.out.keys HF.out.stamps HX.out.1]; exact hm7,
           hmod7'.get HG6.out.2.1 (fun e => HE2.out.ne.2.1 e), HG6.out.2.2.trans hmod7' fun k e _ => .inl e⟩)
        clear hm7 hmod7 hmod7' c1
        go_frame
        go_wp2_with fail
        go_roundw
        case rel => exact ⟨_, HG7.out⟩
        case measure =>
          have e1 := HG.out.it.seenOf
          have e2 := HG7.out.it.seenOf
          have hle := nodup_le HG7.out.nodup HG7.out.sub
          simp only [List.length_append, List.length_map, List.length_cons, List.length_nil] at e2 hle
          omega

end Go.Proofs.YthbicfbhghcmkaaGreat
