/-
  The disk's methods, one by one: Wake.
-/
import Derived.Test.YthbicfbhghcmkaaGreatDiskE
import Derived.OrdersHeld
namespace Go.Proofs.YthbicfbhghcmkaaGreat
open Go Go.RowKit Go.SM

/-- the safe bytes behind a crash: the sectors of ks have their latest ones -/
def wakeFs (ks : List Int) (fo fs : Int → Option (List UInt8)) : Int → Option (List UInt8) := fun k => if k ∈ ks then over fo fs k else fs k
def wakeS (s : DS) (ks : List Int) : DS := { s with fs := wakeFs ks s.fo s.fs, fo := fun _ => none, armed := 0, down := false }

theorem wakeFs_nil (fo fs : Int → Option (List UInt8)) : wakeFs [] fo fs = fs := by funext k; simp [wakeFs]
theorem wakeFs_some {fo fs : Int → Option (List UInt8)} {k : Int} {l : List UInt8} (h : fo k = some l) (ks : List Int) : put (wakeFs ks fo fs) k l = wakeFs (ks ++ [k]) fo fs := by
  funext j
  unfold put wakeFs
  by_cases e : j = k
  · subst e; simp [over, h]
  · simp [e]
theorem wakeFs_none {fo fs : Int → Option (List UInt8)} {k : Int} (h : fo k = none) (ks : List Int) : wakeFs ks fo fs = wakeFs (ks ++ [k]) fo fs := by
  funext j
  unfold wakeFs
  by_cases e : j = k
  · subst e; simp [over, h]
  · simp [e]

theorem wake_nil (v : Value) (w : World) : Calls Tryz.prog 12 #[.pointer none, v] w fun e w' => e = .returned (.tuple #[]) ∧ w = w' := by
  go_enter Tryz.func12, Tryz.ntmps12
  go_wp2
  refine bodyPost_ret (results_none rfl _ _ _) rfl ?_
  exact ⟨rfl, rfl⟩

/-- numbers as cells -/
def ints (l : List Int) : List Value := l.map (Value.int .i64)

theorem DkAt.set43 {w : World} {b ms mo : Nat} {s : DS} (h : DkAt w b ms mo s) :
    DkAt ((w.setCell ⟨b, 4, none⟩ (.bool false)).setCell ⟨b, 3, none⟩ (.int .i64 0)) b ms mo { s with armed := 0, down := false } := by
  have h1 := heap_setCell_same w b 4 _ _ (.bool false) h.cells
  have h2 := heap_setCell_same _ b 3 _ _ (.int .i64 0) h1
  have hm : Mod (· = b) w ((w.setCell ⟨b, 4, none⟩ (.bool false)).setCell ⟨b, 3, none⟩ (.int .i64 0)) :=
    ((Mod.refl (· = b) w).setCell (p := ⟨b, 4, none⟩) (.inl rfl) _).setCell (p := ⟨b, 3, none⟩) (.inl rfl) _
  exact ⟨h2, h.safe.keep hm (Ne.symm h.ne.2.1), h.opens.keep hm (Ne.symm h.ne.2.2), h.ne, h.n1, ⟨Int.le_refl _, by show (0 : Int) ≤ _; decide⟩⟩

/-- what holds of the world while fates are gone through -/
structure Waking (w0 w : World) (b ms mo : Nat) (s : DS) (ks : List Int) (S : Nat → Prop) (j : Nat) : Prop where
  disk : DkAt w b ms mo { s with fs := wakeFs (ks.take j) s.fo s.fs }
  mod : Mod S w0 w

theorem finfo : (Tryz.prog.info? 56).map (·.size) = some 1 := by kernel_rfl

theorem run_fate (w : World) : (zeroValue 56).run Tryz.prog w = .ok (.agg #[.int .i64 0]) w := by
  have h : (Tryz.prog.info? 56).bind (·.zero) = some (.agg #[.int .i64 0]) := by kernel_rfl
  obtain ⟨i, hi, hz⟩ := Option.bind_eq_some_iff.1 h
  simp [zeroValue, typeInfo, hi, hz]

/-- what the region that looks a fate up leans on -/
def HeldF (b g mo : Nat) (k : Int) (fo : Int → Option (List UInt8)) (W : World) : Prop :=
  W.cell? ⟨b, 2, none⟩ = some (.map (some mo)) ∧ W.cell? ⟨g, 0, none⟩ = some (.int .i64 k) ∧ MapIs W mo fo

theorem HeldF.keep {b g mo : Nat} {k : Int} {fo : Int → Option (List UInt8)} {W W' : World} {S : Nat → Prop} (h : HeldF b g mo k fo W) (hm : Mod S W W') (h1 : ¬ S b) (h2 : ¬ S g) (h3 : ¬ S mo) : HeldF b g mo k fo W' :=
  ⟨(hm.cell (p := ⟨b, 2, none⟩) (World.block_lt_of_cell? W _ h.1) h1).trans h.1, (hm.cell (p := ⟨g, 0, none⟩) (World.block_lt_of_cell? W _ h.2.1) h2).trans h.2.1, h.2.2.keep hm h3⟩

theorem look_parts {w : World} {r : Nat} {f : Int → Option (List UInt8)} (h : MapIs w r f) (k : Int) :
    ∃ L B, lookV true (f k) = .tuple #[secV L, .bool B] ∧ L.length = 512 ∧ (B = true → f k = some L) ∧ (B = false → f k = none) := by
  cases hf : f k with
  | some l => exact ⟨l, true, rfl, h.len hf, (fun _ => rfl), (fun e => nomatch e)⟩
  | none => exact ⟨zs, false, rfl, zs_length, (fun e => nomatch e), (fun _ => rfl)⟩

set_option maxHeartbeats 2000000 in
set_option maxRecDepth 100000 in
theorem wake_any {w : World} {b ms mo : Nat} {s : DS} (h : DkAt w b ms mo s) {D : Nat → Prop} {v : Value} {ks : List Int} (hx : Rd w D 1 v ks.length (ints ks)) (hD : ∀ r, D r → r < w.heap.size → ¬ dkOwn b ms mo r)
    (hlen : ks.length ≤ 140737488355328) :
    Calls Tryz.prog 12 #[.pointer (some ⟨b, 0, none⟩), v] w fun e w' => e = .returned (.tuple #[]) ∧ DkAt w' b ms mo (wakeS s ks) ∧ Mod (dkOwn b ms mo) w w' := by
  have hN : (s.n == 0) = false := by have := h.n1; rw [beq_eq_false_iff_ne]; omega
  have h0 := h.c0
  have h3 := h.c3
  have h4 := h.c4
  have f3 := h.fz 3
  have f4 := h.fz 4
  have hm1 : Mod (· = b) w ((w.setCell ⟨b, 4, none⟩ (.bool false)).setCell ⟨b, 3, none⟩ (.int .i64 0)) :=
    ((Mod.refl (· = b) w).setCell (p := ⟨b, 4, none⟩) (.inl rfl) _).setCell (p := ⟨b, 3, none⟩) (.inl rfl) _
  have HD := Lib.hid h
  have HX := Lib.hid hx
  obtain ⟨A, c, rfl⟩ := hx.slice
  have HD1 := Lib.hid h.set43
  have HM1 := Lib.hid hm1
  have HDD := Lib.hid hD
  clear h hx hm1 hD
  go_enter Tryz.func12, Tryz.ntmps12
  go_wp2_with fail
  generalize ((w.setCell ⟨b, 4, none⟩ (.bool false)).setCell ⟨b, 3, none⟩ (.int .i64 0)) = w1 at *
  have HW0 := Lib.hid (show Waking w w1 b ms mo { s with armed := 0, down := false } ks (dkOwn b ms mo) 0 from
    ⟨by rw [List.take_zero, wakeFs_nil]; exact HD1.out, HM1.out.mono fun r _ e => .inl e⟩)
  clear h0 h3 h4 f3 f4 hN
  go_loopw [25] (fun i wr => ∃ j : Nat, i = .int .i64 j ∧ j ≤ ks.length ∧ Waking w wr b ms mo { s with armed := 0, down := false } ks (dkOwn b ms mo) j) (fun i _ => ks.length - (intOf i).toNat)
  case atStart => exact ⟨0, rfl, Nat.zero_le _, HW0.out⟩
  case round =>
    obtain ⟨j, rfl, hj, hw⟩ := hrel
    have HW := Lib.hid hw
    clear hw HW0 HD1 HM1
    by_cases hlt : j < ks.length
    · obtain ⟨g, o, c', he, hc', hDg, hgl, hcell⟩ := HX.out.form (by omega)
      cases he
      have d1 : decide ((j : Int) < (ks.length : Int)) = true := by simpa using hlt
      have hgn : ¬ dkOwn b ms mo g := HDD.out g hDg hgl
      have hg1 : g < wr.heap.size := Nat.lt_of_lt_of_le hgl HW.out.mod.size
      have HF := Lib.hid (show ∀ (i : Nat) (u : Value), [Value.int .i64 ks[j]][i]? = some u → wr.cell? ⟨g, o + j + i, none⟩ = some u by
        intro i u hu
        have hi : i = 0 := by
          rcases Nat.eq_zero_or_pos i with h | h
          · exact h
          · rw [List.getElem?_eq_none (by simp; omega)] at hu; cases hu
        subst hi
        rw [HW.out.mod.cell (p := ⟨g, o + j + 0, none⟩) hgl hgn, Nat.add_zero]
        exact hcell j u (by simpa [ints, hlt] using hu))
      clear hcell
      go_wp2_with (with_reducible refine at_ (o := ⟨some 28, _, _, _, _, _⟩) ?_)
      refine un (wpList_load rfl 56 _ rfl g (o + j) (by first | rfl | (simp [Act.eval])) [.int .i64 ks[j]] _ Tryz.underlying56 rfl HF.out (by rw [finfo]; rfl) ?_)
      go_frame
      go_wp2_with (with_reducible refine at_ (o := ⟨some 5, .alloc _, _, _, _, _⟩) ?_)
      refine un (wpList_alloc rfl 56 rfl #[.int .i64 0] (run_fate _) ?_)
      intro w3 g3 hb3 hm3 hs3
      have HM3 := Lib.hid hm3
      have HB3 := Lib.hid hb3
      clear hb3 hm3
      go_frame
      go_wp2_with (with_reducible refine at_ (o := ⟨none, .store _ _ _, _, _, _, _⟩) ?_)
      refine un (wpList_store rfl 56 _ _ rfl g3 rfl [.int .i64 ks[j]] rfl _ _ HB3.out rfl (by rw [finfo]; rfl) (by intro u hu; simp at hu; subst hu; rfl) ?_)
      intro w4 hb4 hm4
      have HM4 := Lib.hid (show Mod none_ wr w4 from HM3.out.trans hm4 (fun r e hr => by omega))
      have HD4 := Lib.hid (HW.out.disk.keep HM4.out (fun _ _ e => e))
      have hc2 : w4.cell? ⟨b, 2, none⟩ = some (.map (some mo)) := HD4.out.c2
      have hc3 : w4.cell? ⟨g3, 0, none⟩ = some (.int .i64 ks[j]) := by rw [cell_of_row w4 g3 0 _ _ _ hb4]; rfl
      have zz : ∀ r, dkOwn b ms mo r → r < g3 := fun r hr => Nat.lt_of_lt_of_le (HW.out.disk.own_lt r hr) hs3
      have HZ := Lib.hid zz
      have HB4 := Lib.hid hb4
      obtain ⟨L, B, hLB⟩ := look_parts HD4.out.opens ks[j]
      have HLB := Lib.hid hLB
      clear hLB
      clear hb4 hm4 zz
      go_frame
      go_wp2_with fail
      have hS : HeldF b g3 mo ks[j] s.fo w4.drew := ⟨hc2, hc3, HD4.out.opens⟩
      refine wp_region_held (S := HeldF b g3 mo ks[j] s.fo) (by kernel_rfl) ?_
      show wpAnyH _ _ _ _ _ 13 _ _ w4.drew
      refine wpAnyH_take (i := 0) (oi := ⟨some 30, .move (.tmp 0), _, _, _, none⟩) (v := .pointer (some ⟨b, 0, none⟩)) rfl (by kernel_rfl) (by kernel_rfl) (by kernel_rfl) (fun _ _ _ h => h) (.inl ⟨rfl, fun W hW => by go_simp⟩) hS ?_
      go_frame
      refine wpAnyH_take (i := 1) (oi := ⟨some 31, .nilCheck (.tmp 30), _, _, _, none⟩) (v := .pointer (some ⟨b, 0, none⟩)) rfl (by kernel_rfl) (by kernel_rfl) (by kernel_rfl) (fun _ _ _ h => h) (.inl ⟨rfl, fun W hW => by go_simp⟩) hS ?_
      go_frame
      refine wpAnyH_take (i := 2) (oi := ⟨some 32, .fieldAddr 48 (.tmp 31) 2, _, _, _, none⟩) (v := .pointer (some ⟨b, 2, none⟩)) rfl (by kernel_rfl) (by kernel_rfl) (by kernel_rfl) (fun _ _ _ h => h) (.inl ⟨rfl, fun W hW => by go_simp⟩) hS ?_
      go_frame
      refine wpAnyH_take (i := 3) (oi := ⟨some 33, .load 46 (.tmp 32), _, _, _, none⟩) (v := .map (some mo)) rfl (by kernel_rfl) (by kernel_rfl) (by kernel_rfl) (fun _ _ _ h => h) (.inl ⟨rfl, fun W hW => by have h2 := hW.1; go_simp⟩) hS ?_
      go_frame
      refine wpAnyH_take (i := 4) (oi := ⟨some 34, .fieldAddr 56 (.tmp 5) 0, _, _, _, none⟩) (v := .pointer (some ⟨g3, 0, none⟩)) rfl (by kernel_rfl) (by kernel_rfl) (by kernel_rfl) (fun _ _ _ h => h) (.inl ⟨rfl, fun W hW => by go_simp⟩) hS ?_
      go_frame
      refine wpAnyH_take (i := 5) (oi := ⟨some 35, .load 3 (.tmp 34), _, _, _, none⟩) (v := .int .i64 ks[j]) rfl (by kernel_rfl) (by kernel_rfl) (by kernel_rfl) (fun _ _ _ h => h) (.inl ⟨rfl, fun W hW => by have h2 := hW.2.1; go_simp⟩) hS ?_
      go_frame
      refine held_take (i := 6) (oi := ⟨some 36, .lookup 46 (.tmp 33) (.tmp 35) true, _, _, _, none⟩) (v := .tuple #[secV L, .bool B]) rfl (by kernel_rfl) (by kernel_rfl) (by kernel_rfl) (fun _ _ _ h => h) rfl rfl (fun W hW => by rw [← HLB.out.1]; exact run_lookup Tryz.underlying46 Tryz.underlying3 (run_zero _) hW.2.2 ks[j] true) hS ?_
      go_frame
      refine wpAnyH_take (i := 7) (oi := ⟨some 29, .move (.tmp 36), _, _, _, none⟩) (v := .tuple #[secV L, .bool B]) rfl (by kernel_rfl) (by kernel_rfl) (by kernel_rfl) (fun _ _ _ h => h) (.inl ⟨rfl, fun W hW => by go_simp⟩) hS ?_
      go_frame
      refine wpAnyH_take (i := 8) (oi := ⟨some 37, .extract (.tmp 29) 0, _, _, _, none⟩) (v := secV L) rfl (by kernel_rfl) (by kernel_rfl) (by kernel_rfl) (fun _ _ _ h => h) (.inl ⟨rfl, fun W hW => by go_simp⟩) hS ?_
      go_frame
      refine wpAnyH_take (i := 9) (oi := ⟨some 38, .extract (.tmp 29) 1, _, _, _, none⟩) (v := .bool B) rfl (by kernel_rfl) (by kernel_rfl) (by kernel_rfl) (fun _ _ _ h => h) (.inl ⟨rfl, fun W hW => by go_simp⟩) hS ?_
      go_frame
      refine held_alloc (i := 10) (oi := ⟨some 6, .alloc 64, _, _, _, none⟩) rfl (by kernel_rfl) rfl _ rfl _ (run_zero _) ?_
      intro w5 g5 hb5 hm5 hs5
      have hS5 : HeldF b g3 mo ks[j] s.fo w5 := hS.keep hm5 (fun e => e) (fun e => e) (fun e => e)
      refine ⟨hS5, ?_⟩
      go_frame
      have z5 : ∀ r, r < w4.heap.size → r ≠ g5 := fun r hr e => by
        have h5 : w4.heap.size ≤ g5 := hs5
        omega
      refine held_store (i := 11) (oi := ⟨none, .store 64 (.tmp 6) (.tmp 37), _, _, _, none⟩) rfl (by kernel_rfl) rfl _ _ _ rfl g5 rfl (u8s L) rfl _ _ hb5 (by simp [HLB.out.2.1, zs_length]) (by rw [zinfo]; simp [HLB.out.2.1]) (u8s_one L) ?_
      intro w6 hb6 hm6
      have hS6 : HeldF b g3 mo ks[j] s.fo w6 := hS5.keep hm6 (z5 b (HD4.out.own_lt b (.inl rfl))) (z5 g3 (blk_lt HB4.out)) (z5 mo (HD4.out.own_lt mo (.inr (.inr rfl))))
      refine ⟨hS6, ?_⟩
      go_frame
      refine held_one (i := 12) (oi := ⟨some 7, .assign (.tmp 38), _, _, _, none⟩) (v := .bool B) rfl (by kernel_rfl) rfl rfl (.inl rfl) hS6 ?_
      go_frame
      refine wpAnyH_done (by kernel_rfl) ?_ 0
      have HM6 := Lib.hid (show Mod none_ w4 w6 from (show Mod none_ w4 w5 from ⟨hm5.os, hm5.tape, hm5.output, hm5.size, hm5.block⟩).trans hm6 (fun r e hr => z5 r hr e))
      have HB6 := Lib.hid hb6
      have HD6 := Lib.hid (HD4.out.keep HM6.out (fun _ _ e => e))
      clear hS hS5 hS6 hb5 hm5 hb6 hm6 z5 hs5 hc2
      have hct : (ks.take (j + 1)) = ks.take j ++ [ks[j]] := List.take_succ_eq_append_getElem hlt
      have hc1 : w6.cell? ⟨b, 1, none⟩ = some (.map (some ms)) := HD6.out.c1
      have hc6 : w6.cell? ⟨g3, 0, none⟩ = some (.int .i64 ks[j]) := (HM6.out.cell (p := ⟨g3, 0, none⟩) (blk_lt HB4.out) (fun e => e)).trans (by rw [cell_of_row w4 g3 0 _ _ _ HB4.out]; rfl)
      have HCT := Lib.hid hct
      clear hct hc3
      cases B with
      | true =>
        go_wp2_with fail
        refine wp_region_still_tail 7 (by kernel_rfl) (by kernel_rfl) ?_
        simp only [List.take_succ_cons, List.take_zero, List.drop_succ_cons, List.drop_zero]
        iterate 6 still_step
        refine wpStill_load rfl 64 _ rfl g5 0 rfl (u8s L) _ Tryz.underlying64 rfl (block_cells HB6.out) (by rw [zinfo]; simp [HLB.out.2.1]) ?_
        refine wpStill_nil ?_
        refine wpList_update rfl 46 _ _ _ rfl 3 64 .i64 Tryz.underlying46 Tryz.underlying3 ms _ ks[j] L HLB.out.2.1 rfl rfl rfl (show MapIs w6.drew ms _ from HD6.out.safe) ?_
        intro w7 hm7 hmod7
        have hmod7' : Mod (· = ms) w6 w7 := ⟨hmod7.os, hmod7.tape, hmod7.output, hmod7.size, hmod7.block⟩
        have HW7 := Lib.hid (show Waking w w7 b ms mo { s with armed := 0, down := false } ks (dkOwn b ms mo) (j + 1) from
          ⟨⟨hmod7'.get HD6.out.cells HD6.out.ne.2.1, by
              show MapIs w7 ms (wakeFs (ks.take (j + 1)) s.fo s.fs)
              rw [HCT.out, ← wakeFs_some (HLB.out.2.2.1 (by simp))]
              exact hm7, HD6.out.opens.keep hmod7' (fun e => HD6.out.ne.1 e.symm), HD6.out.ne, HD6.out.n1, HD6.out.arm⟩,
            ((HW.out.mod.trans HM4.out (fun r e _ => e.elim)).trans HM6.out (fun r e _ => e.elim)).trans' (hmod7'.mono fun r _ e => .inr (.inl e))⟩)
        clear hm7 hmod7 hmod7' hc1 hc6
        go_frame
        go_wp2_with fail
        go_roundw
        case rel => exact ⟨j + 1, by go_num, by omega, HW7.out⟩
        case measure => simp [intOf]; omega
      | false =>
        have HW7 := Lib.hid (show Waking w w6 b ms mo { s with armed := 0, down := false } ks (dkOwn b ms mo) (j + 1) from
          ⟨by
              rw [HCT.out, ← wakeFs_none (HLB.out.2.2.2 (by simp))]
              exact HD6.out,
            (HW.out.mod.trans HM4.out (fun r e _ => e.elim)).trans HM6.out (fun r e _ => e.elim)⟩)
        clear hc1 hc6
        go_wp2_with fail
        go_roundw
        case rel => exact ⟨j + 1, by go_num, by omega, HW7.out⟩
        case measure => simp [intOf]; omega
    · have d1 : decide ((j : Int) < (ks.length : Int)) = false := by simpa using hlt
      have hc2 := HW.out.disk.c2
      go_wp2_with (with_reducible refine at_ (o := ⟨none, .call _, _, _, _, _⟩) ?_)
      refine un (wpList_clear rfl _ 46 rfl 3 64 Tryz.underlying46 mo _ rfl HW.out.disk.opens ?_)
      intro w4 hm4 hmod4
      have hk : ks.take j = ks := List.take_of_length_le (by omega)
      have HD4 := Lib.hid (show DkAt w4 b ms mo (wakeS s ks) from ⟨hmod4.get HW.out.disk.cells HD.out.ne.2.2, by
          have h := HW.out.disk.safe.keep hmod4 HD.out.ne.1
          rw [hk] at h
          exact h, hm4, HD.out.ne, HD.out.n1, HW.out.disk.arm⟩)
      have HM4 := Lib.hid (HW.out.mod.trans' (hmod4.mono fun r _ e => .inr (.inr e)))
      clear hm4 hmod4 hk hc2
      go_frame
      go_wp2
      go_end0
      exact ⟨rfl, HD4.out, HM4.out⟩

end Go.Proofs.YthbicfbhghcmkaaGreat
