/-
  The disk's methods, one by one: Sync.
-/
import Derived.Test.YthbicfbhghcmkaaGreatDiskD
namespace Go.Proofs.YthbicfbhghcmkaaGreat
open Go Go.RowKit Go.SM

/-- a disk whose open sectors are safe -/
def flushS (s : DS) : DS := { s with fs := over s.fo s.fs, fo := fun _ => none }
def syncS (s : DS) : DS := if (crashS s).down then crashS s else flushS (crashS s)

theorem sync_nil (w : World) : Calls Tryz.prog 19 #[.pointer none] w fun e w' => e = .returned (.int .i64 1) ∧ w = w' := by
  go_enter Tryz.func19, Tryz.ntmps19
  go_wp2_with ((with_reducible refine (may_nil _ _).mono ?_); rintro e w' ⟨rfl, rfl⟩)
  go_ret
  exact ⟨rfl, rfl⟩

theorem sync_no {w : World} {b ms mo : Nat} {s : DS} (h : DkAt w b ms mo s) (hn : mayE s 0 ≠ 0) :
    Calls Tryz.prog 19 #[.pointer (some ⟨b, 0, none⟩)] w fun e w' => e = .returned (.int .i64 (mayE s 0)) ∧ w = w' := by
  have d1 : (mayE s 0 != 0) = true := by simpa using hn
  have HD := Lib.hid h
  clear h hn
  go_enter Tryz.func19, Tryz.ntmps19
  go_wp2_with ((with_reducible refine (may_any HD.out _).mono ?_); rintro e w' ⟨rfl, rfl⟩)
  go_ret
  exact ⟨rfl, rfl⟩

theorem sync_down {w : World} {b ms mo : Nat} {s : DS} (h : DkAt w b ms mo s) (hn : mayE s 0 = 0) (hd : (crashS s).down = true) :
    Calls Tryz.prog 19 #[.pointer (some ⟨b, 0, none⟩)] w fun e w' => e = .returned (.int .i64 8) ∧ DkAt w' b ms mo (crashS s) ∧ Mod (dkOwn b ms mo) w w' := by
  have d1 : (mayE s 0 != 0) = false := by simpa using hn
  have HD := Lib.hid h
  have HW := Lib.hid hd
  clear h hn hd
  go_enter Tryz.func19, Tryz.ntmps19
  go_wp2_with (first | ((with_reducible refine (may_any HD.out _).mono ?_); rintro e w' ⟨rfl, rfl⟩) | ((with_reducible refine (crash_any HD.out).mono ?_); rintro e w2 ⟨rfl, hd2, hm2, _⟩; have HD2 := Lib.hid hd2; have HM2 := Lib.hid hm2; clear hd2 hm2; rw [HW.out]))
  go_ret
  exact ⟨rfl, HD2.out, HM2.out.mono fun r _ e => .inl e⟩

/-- what holds of the world while the open sectors of a disk are gone through -/
structure Going (w0 w : World) (r b ms mo : Nat) (c : Array Value) (ts : List Tri) (clk : Nat) (fs : Int → Option (List UInt8)) (S : Nat → Prop) (seen : List Nat) : Prop where
  it : It w r mo ts clk seen
  nodup : seen.Nodup
  sub : ∀ x ∈ seen, x ∈ ts.map (·.2.2)
  map : MapIs w ms (overT ts seen fs)
  cells : w.heap[b]? = some (.cells c 48 (0, 0))
  mod : Mod S w0 w

set_option maxRecDepth 100000 in
theorem sync_ok {w : World} {b ms mo : Nat} {s : DS} (h : DkAt w b ms mo s) (hn : mayE s 0 = 0) (hd : (crashS s).down = false) :
    Calls Tryz.prog 19 #[.pointer (some ⟨b, 0, none⟩)] w fun e w' => e = .returned (.int .i64 0) ∧ DkAt w' b ms mo (flushS (crashS s)) ∧ Mod (dkOwn b ms mo) w w' := by
  have d1 : (mayE s 0 != 0) = false := by simpa using hn
  have HD := Lib.hid h
  have HW := Lib.hid hd
  clear h hn hd
  go_enter Tryz.func19, Tryz.ntmps19
  go_wp2_with (first | ((with_reducible refine (may_any HD.out _).mono ?_); rintro e w' ⟨rfl, rfl⟩) | ((with_reducible refine (crash_any HD.out).mono ?_); rintro e w2 ⟨rfl, hd2, hm2, _⟩; have HD2 := Lib.hid hd2; have HM2 := Lib.hid hm2; have c2 := hd2.c2; clear hd2 hm2; rw [HW.out]) | (with_reducible refine at_ (o := ⟨some 17, _, _, _, _, _⟩) ?_))
  obtain ⟨ts, clk, hb, he⟩ := HD2.out.opens
  have HE := Lib.hid he
  have HB := Lib.hid hb
  clear he hb
  refine un (wpList_range rfl 46 _ rfl 3 64 Tryz.underlying46 rfl HB.out HE.out ?_)
  intro w3 r hi3 hm3 hr3
  have HG3 := Lib.hid (show Going w2 w3 r b ms mo (dkCells ms mo (crashS s)) ts clk (crashS s).fs (fun k => k = ms ∨ w2.heap.size ≤ k) [] from
    ⟨hi3, by simp, by simp, by rw [overT_nil]; exact HD2.out.safe.keep hm3 (fun e => e), hm3.get HD2.out.cells (fun e => e), hm3.mono fun _ _ e => e.elim⟩)
  clear hi3 hm3 c2
  go_frame
  go_wp2_with fail
  go_loopw [] (fun wr => ∃ seen, Going w2 wr r b ms mo (dkCells ms mo (crashS s)) ts clk (crashS s).fs (fun k => k = ms ∨ w2.heap.size ≤ k) seen) (fun wr => ts.length - seenOf wr r)
  case atStart => exact ⟨[], HG3.out⟩
  case round =>
    obtain ⟨seen, hg⟩ := hrel
    have HG := Lib.hid hg
    clear hg HG3
    go_wp2_with (with_reducible refine at_ (o := ⟨some 18, _, _, _, _, _⟩) ?_)
    refine un (wpList_next rfl _ rfl rfl HG.out.it ?_ ?_)
    · intro hall
      have HA := Lib.hid hall
      clear hall
      have c2 : wr.cell? ⟨b, 2, none⟩ = some (.map (some mo)) := by rw [cell_of_row wr b 2 _ _ _ HG.out.cells]; rfl
      go_frame
      go_wp2_with (with_reducible refine at_ (o := ⟨none, .call _, _, _, _, _⟩) ?_)
      refine un (wpList_clear rfl _ 46 rfl 3 64 Tryz.underlying46 mo _ rfl ⟨ts, clk, HG.out.it.2.1, HE.out⟩ ?_)
      intro w4 hm4 hmod4
      have z2 := HD2.out.own_lt
      have HD4 := Lib.hid (show DkAt w4 b ms mo (flushS (crashS s)) from ⟨hmod4.get HG.out.cells HD2.out.ne.2.2, by
          rw [show (flushS (crashS s)).fs = overT ts seen (crashS s).fs from (overT_all HE.out HA.out _).symm]
          exact HG.out.map.keep hmod4 HD2.out.ne.1, hm4, HD2.out.ne, HD2.out.n1, HD2.out.arm⟩)
      have HM4 := Lib.hid (((HM2.out.mono fun r _ e => .inl e).trans HG.out.mod (S := dkOwn b ms mo) (fun k e hk => by
          rcases e with e | e
          · exact .inr (.inl e)
          · have := HM2.out.size; omega)).trans' (hmod4.mono fun r _ e => .inr (.inr e)))
      clear hm4 hmod4 c2
      go_frame
      go_wp2
      go_ret
      exact ⟨rfl, HD4.out, HM4.out⟩
    · intro x w4 hx hns hi4 hm4
      have z2 := HD2.out.own_lt
      have hr4 : r < wr.heap.size := blk_lt HG.out.it.1
      have zr : ∀ k, dkOwn b ms mo k → ¬ k = r := fun k hk e => by have := z2 k hk; omega
      have HX := Lib.hid (And.intro hx hns)
      have HI4 := Lib.hid hi4
      have HG4 := Lib.hid (show MapIs w4 ms (overT ts seen (crashS s).fs) ∧ w4.heap[b]? = some (.cells (dkCells ms mo (crashS s)) 48 (0, 0)) ∧ Mod (fun k => k = ms ∨ w2.heap.size ≤ k) w2 w4 from
        ⟨HG.out.map.keep hm4 (zr ms (.inr (.inl rfl))), hm4.get HG.out.cells (zr b (.inl rfl)), HG.out.mod.trans hm4 fun k e _ => .inr (by omega)⟩)
      clear hx hns hi4 hm4 z2 zr
      go_frame
      go_wp2_with (with_reducible refine at_ (o := ⟨some 20, _, _, _, _, _⟩) ?_)
      refine un (wpList_entry rfl _ rfl rfl HX.out.1 HI4.out ?_)
      go_frame
      go_wp2_with (with_reducible refine at_ (o := ⟨some 5, .alloc _, _, _, _, _⟩) ?_)
      refine un (wpList_alloc rfl 64 rfl _ (run_zero _) ?_)
      intro w5 g5 hb5 hm5 hs5
      have HI5 := Lib.hid (HI4.out.keep hm5 (fun e => e) (fun e => e))
      have HG5 := Lib.hid (show MapIs w5 ms (overT ts seen (crashS s).fs) ∧ w5.heap[b]? = some (.cells (dkCells ms mo (crashS s)) 48 (0, 0)) ∧ Mod (fun k => k = ms ∨ w2.heap.size ≤ k) w2 w5 from
        ⟨HG4.out.1.keep hm5 (fun e => e), hm5.get HG4.out.2.1 (fun e => e), HG4.out.2.2.trans hm5 fun k e _ => e.elim⟩)
      have HB5 := Lib.hid hb5
      have z5 : w2.heap.size ≤ g5 := Nat.le_trans HG4.out.2.2.size hs5
      have z6 : r < g5 := Nat.lt_of_lt_of_le (blk_lt HI4.out.1) hs5
      clear hb5 hm5
      have HLen := Lib.hid (show x.2.1.length = 512 from HE.out.len x HX.out.1)
      go_frame
      go_wp2_with (with_reducible refine at_ (o := ⟨none, .store _ _ _, _, _, _, _⟩) ?_)
      refine un (wpList_store rfl 64 _ _ rfl g5 rfl (u8s x.2.1) rfl _ _ HB5.out (by simp [HLen.out, zs_length]) (by rw [zinfo]; simp [HLen.out]) (u8s_one _) ?_)
      intro w6 hb6 hm6
      have z2 := HD2.out.own_lt
      have zr : ∀ k, dkOwn b ms mo k → ¬ k = g5 := fun k hk e => by have := z2 k hk; omega
      have HI6 := Lib.hid (HI5.out.keep hm6 (by omega) (zr mo (.inr (.inr rfl))))
      have HG6 := Lib.hid (show MapIs w6 ms (overT ts seen (crashS s).fs) ∧ w6.heap[b]? = some (.cells (dkCells ms mo (crashS s)) 48 (0, 0)) ∧ Mod (fun k => k = ms ∨ w2.heap.size ≤ k) w2 w6 from
        ⟨HG5.out.1.keep hm6 (zr ms (.inr (.inl rfl))), hm6.get HG5.out.2.1 (zr b (.inl rfl)), HG5.out.2.2.trans hm6 fun k e _ => .inr (by omega)⟩)
      have HB6 := Lib.hid hb6
      have c1 : w6.cell? ⟨b, 1, none⟩ = some (.map (some ms)) := by rw [cell_of_row w6 b 1 _ _ _ HG6.out.2.1]; rfl
      clear hb6 hm6 z2 zr
      go_frame
      go_wp2_with fail
      refine wp_region_still_tail 6 (by kernel_rfl) (by kernel_rfl) ?_
      simp only [List.take_succ_cons, List.take_zero, List.drop_succ_cons, List.drop_zero]
      iterate 5 still_step
      refine wpStill_load rfl 64 _ rfl g5 0 rfl (u8s x.2.1) _ Tryz.underlying64 rfl (block_cells HB6.out) (by rw [zinfo]; simp [HLen.out]) ?_
      refine wpStill_nil ?_
      refine wpList_update rfl 46 _ _ _ rfl 3 64 .i64 Tryz.underlying46 Tryz.underlying3 ms _ x.1 x.2.1 HLen.out rfl rfl rfl (show MapIs w6.drew ms _ from HG6.out.1) ?_
      intro w7 hm7 hmod7
      have hmod7' : Mod (· = ms) w6 w7 := ⟨hmod7.os, hmod7.tape, hmod7.output, hmod7.size, hmod7.block⟩
      have HG7 := Lib.hid (show Going w2 w7 r b ms mo (dkCells ms mo (crashS s)) ts clk (crashS s).fs (fun k => k = ms ∨ w2.heap.size ≤ k) (seen ++ [x.2.2]) from
        ⟨HI6.out.keep hmod7' (fun e => by have := HD2.out.own_lt ms (.inr (.inl rfl)); omega) (fun e => HD2.out.ne.1 e.symm),
         by rw [List.nodup_append]; exact ⟨HG.out.nodup, by simp, fun a ha b' hb' e => by simp at hb'; exact HX.out.2 (by rw [← hb', ← e]; exact ha)⟩,
         fun y hy => by
          rcases List.mem_append.1 hy with hy | hy
          · exact HG.out.sub y hy
          · simp at hy; rw [hy]; exact List.mem_map_of_mem (f := fun t : Tri => t.2.2) HX.out.1,
         by rw [← overT_step HE.out.keys HE.out.stamps HX.out.1]; exact hm7,
         hmod7'.get HG6.out.2.1 (fun e => HD2.out.ne.2.1 e), HG6.out.2.2.trans hmod7' fun k e _ => .inl e⟩)
      clear hm7 hmod7 hmod7' c1
      go_frame
      go_wp2_with fail
      go_roundw
      case rel => exact ⟨_, HG7.out⟩
      case measure =>
        have e1 := HG.out.it.seenOf
        have e2 := HG7.out.it.seenOf
        have hle := nodup_le HG7.out.nodup HG7.out.sub
        simp only [List.length_append, List.length_map, List.length_cons, List.length_nil] at e2 hle
        omega

end Go.Proofs.YthbicfbhghcmkaaGreat
