/-
  MarkNumbers: the walk.
-/
import Derived.Test.YthkbnhoebijdoaaMarkX
import Derived.Test.YthkbnhoebijdoaaMarkH
import Derived.Great.BuildSlice
namespace Go.Proofs.Ythkbnhoebijdoaa
open Go Go.RowKit Go.SM

def sizesL : List Int := [-9223372036854775808, -1, 0, 39, 40, 41, 47, 48, 51, 52, 100, 8191, 8192, 8193, 9223372036854775807]
theorem sizes_len : sizesL.length = 15 := rfl

set_option maxHeartbeats 8000000 in
set_option maxRecDepth 100000 in
theorem numbers25 (w : World) : Calls Try.prog 7 #[] w fun e w' => e = .returned (.bool true) ∧ Mod none_ w w' := by
  go_enter Try.func7, Try.ntmps7
  go_wp2_with (with_reducible refine at_ (o := ⟨some 16, .buildSlice _ _ _, _, _, _, _⟩) ?_)
  refine un (wpList_buildFlat rfl 56 3 15 _ rfl .i64 sizesL Try.underlying56 (by kernel_rfl) (by kernel_rfl) rfl (by omega) (by omega) (by kernel_rfl) ?_)
  have hm1 := (Mod.refl none_ w).alloc (.cells (sizesL.map (Value.int .i64)).toArray 3)
  have hb1 := heap_alloc_new w (.cells (sizesL.map (Value.int .i64)).toArray 3)
  generalize w.alloc (.cells (sizesL.map (Value.int .i64)).toArray 3) = w1 at *
  obtain ⟨g1, hg1⟩ : ∃ g, w.heap.size = g := ⟨_, rfl⟩
  rw [hg1] at hb1 ⊢
  have HM1 := Lib.hid hm1
  have HB1 := Lib.hid hb1
  clear hm1 hb1 hg1
  go_frame
  go_wp2_with fail
  go_loopw [2] (fun i wr => ∃ j : Nat, i = .int .i64 j ∧ j ≤ 15 ∧ Mod none_ w wr ∧ wr.heap[g1]? = some (.cells (sizesL.map (Value.int .i64)).toArray 3 (0, 0))) (fun i _ => 15 - (intOf i).toNat)
  case atStart => exact ⟨0, rfl, Nat.zero_le _, HM1.out, HB1.out⟩
  case round =>
    obtain ⟨j, rfl, hj, hm, hb⟩ := hrel
    have HM := Lib.hid hm
    have HB := Lib.hid hb
    clear hm hb HM1 HB1
    by_cases hlt : j < 15
    · have hjs : j < sizesL.length := by rw [sizes_len]; exact hlt
      have hcell : wr.cell? ⟨g1, j, none⟩ = some (.int .i64 sizesL[j]) := by
        rw [cell_of_row wr g1 j _ _ _ HB.out]
        simp [hjs]
      generalize sizesL[j] = z at *
      have d1 : decide ((j : Int) < 15) = true := by simp; omega
      have d2 : (j : Int) < 15 := by omega
      go_wp2_with fail
      refine (places_walk z _).mono ?_
      rintro e w2 ⟨rfl, hm2⟩
      have HM2 := Lib.hid (HM.out.trans' hm2)
      have HB2 := Lib.hid (hm2.get HB.out (fun e => e))
      clear hm2 hcell
      go_wp2_with fail
      exact ⟨⟨j + 1, by go_num, by omega, HM2.out, HB2.out⟩, by simp [intOf]; omega⟩
    · have d1 : decide ((j : Int) < 15) = false := by simp; omega
      have d2 : ¬ (j : Int) < 15 := by omega
      clear HB
      go_wp2_with fail
      go_loopw [3] (fun i wr => ∃ j : Nat, i = .int .i64 j ∧ 38 ≤ j ∧ j ≤ 46 ∧ Mod none_ w wr) (fun i _ => 46 - (intOf i).toNat)
      case atStart => exact ⟨38, rfl, by omega, by omega, HM.out⟩
      case round =>
        clear HM
        obtain ⟨k, rfl, hk1, hk2, hm⟩ := hrel
        have HM := Lib.hid hm
        clear hm
        by_cases hlk : k < 46
        · have d3 : decide ((k : Int) < 46) = true := by simp; omega
          have d4 : (k : Int) < 46 := by omega
          go_wp2_with fail
          refine (livesA (wr := wr) (k := k) (((Mod.refl none_ wr).alloc _).alloc _) (gf := wr.heap.size) (Mod.get (S := none_) ((Mod.refl none_ _).alloc _) (heap_alloc_new wr _) (fun e => e)) (two_new wr _ _ _) (by omega)).mono ?_
          rintro e w3 ⟨rfl, hm3⟩
          have HM3 := Lib.hid (HM.out.trans' hm3)
          clear hm3
          go_wp2_with fail
          refine (livesB (wr := w3) (k := k) (((Mod.refl none_ w3).alloc _).alloc _) (gf := w3.heap.size) (Mod.get (S := none_) ((Mod.refl none_ _).alloc _) (heap_alloc_new w3 _) (fun e => e)) (two_new w3 _ _ _) (by omega)).mono ?_
          rintro e w4 ⟨rfl, hm4⟩
          have HM4 := Lib.hid (HM3.out.trans' hm4)
          clear hm4
          go_wp2_with fail
          exact ⟨⟨k + 1, by go_num, by omega, by omega, HM4.out⟩, by simp [intOf]; omega⟩
        · have d3 : decide ((k : Int) < 46) = false := by simp; omega
          have d4 : ¬ (k : Int) < 46 := by omega
          obtain ⟨t1, t2, f1, r1, f2, r2, l2, m2, n1⟩ := nums_one
          have HF1 := Lib.hid f1
          have HR1 := Lib.hid r1
          have HF2 := Lib.hid f2
          have HR2 := Lib.hid r2
          have HL2 := Lib.hid l2
          have HM2 := Lib.hid m2
          clear f1 r1 f2 r2 l2 m2 n1
          go_wp2_with (with_reducible refine at_ (o := ⟨some 4, .alloc _, _, _, _, _⟩) ?_)
          refine un (wpList_alloc rfl 27 rfl (mCells zeroM) (run_zeroM _) ?_)
          intro w3 g4 hb3 hm3 hs3
          go_frame
          go_wp2_with (with_reducible refine at_ (o := ⟨none, .store _ _ _, _, _, _, _⟩) ?_)
          refine un (wpList_store rfl 27 _ _ rfl g4 rfl [.int .i64 2305843009213693952, .int .i64 2147483647, .int .i64 1152921504606846976, .int .i64 1152921504606846976] rfl _ _ hb3 (mCells_size zeroM) (by rw [mst_size]; rfl) (mCells_one goodM) ?_)
          intro w4 hb4 hm4
          have HM4 := Lib.hid ((HM.out.trans' hm3).trans hm4 (fun r e hr => by have := HM.out.size; omega))
          have HB4 := Lib.hid (show w4.heap[g4]? = some (.cells (mCells goodM) 27 (0, 0)) from hb4)
          have HG4 := Lib.hid (show w.heap.size ≤ g4 from Nat.le_trans HM.out.size hs3)
          clear hb3 hm3 hs3 hb4 hm4 HM d3 d4
          go_frame
          go_wp2_with fail
          refine (new_lit HM4.out rfl).mono ?_
          rintro e w5 ⟨b, ms, mo, rfl, h5, hm5, hb5, hn5⟩
          obtain ⟨g5, hg5⟩ : ∃ g, w4.heap.size = g := ⟨_, rfl⟩
          have hg45 : g4 < g5 := hg5 ▸ blk_lt HB4.out
          rw [hg5] at hb5 hn5 ⊢
          have HL5 := Lib.hid h5
          have HC5 := Lib.hid hb5
          have HN5 := Lib.hid (hn5 g5 (Nat.le_refl _))
          have HB5 := Lib.hid (hm5.get HB4.out (fun e => e))
          have HN4 := Lib.hid (hn5 g4 (Nat.le_of_lt hg45))
          clear h5 hm5 hb5 hn5 hg5 hg45 HB4 HM4
          go_wp2_with fail
          refine (mk_read HL5.out).mono ?_
          rintro e w6 ⟨rfl, h6, hm6⟩
          rw [rd_new]
          have HL6 := Lib.hid h6
          have HC6 := Lib.hid (hm6.get HC5.out (fun e => e))
          have HB6 := Lib.hid (hm6.get HB5.out (fun e => e))
          clear h6 hm6 HL5 HC5 HB5
          go_wp2_with (with_reducible refine at_ (o := ⟨some 7, .alloc _, _, _, _, _⟩) ?_)
          refine un (wpList_alloc rfl 27 rfl (mCells zeroM) (run_zeroM _) ?_)
          intro w7 g7 hb7 hm7 hs7
          go_frame
          go_wp2_with (with_reducible refine at_ (o := ⟨none, .store _ _ _, _, _, _, _⟩) ?_)
          refine un (wpList_store rfl 27 _ _ rfl g7 rfl [.int .i64 0, .int .i64 0, .int .i64 0, .int .i64 0] rfl _ _ hb7 (mCells_size zeroM) (by rw [mst_size]; rfl) (mCells_one zeroM) ?_)
          intro w8 hb8 hm8
          have hm78 : Mod none_ w6 w8 := hm7.trans hm8 (fun r e hr => by omega)
          have HL8 := Lib.hid (HL6.out.keep hm78)
          have HC8 := Lib.hid (hm78.get HC6.out (fun e => e))
          have HB8 := Lib.hid (hm78.get HB6.out (fun e => e))
          clear hb7 hm7 hs7 hb8 hm8 hm78 HL6 HC6 HB6
          obtain ⟨e0, e1, e2, e3⟩ := good_cells HB8.out
          go_frame
          go_wp2_with fail
          refine (show Calls Try.prog 13 #[.pointer (some ⟨b, 0, none⟩), mV goodM] _ _ from mk_write HL8.out goodM).mono ?_
          rintro e w9 ⟨rfl, h9, hm9⟩
          rw [HF1.out] at h9 ⊢
          have HL9 := Lib.hid h9
          have HC9 := Lib.hid (hm9.get HC8.out HN5.out)
          have HB9 := Lib.hid (hm9.get HB8.out HN4.out)
          clear h9 hm9 e0 e1 e2 e3 HL8 HC8 HB8
          go_wp2_with fail
          go_loopw [9] (fun i wr => ∃ (j : Nat), i = .int .i64 j ∧ j ≤ 8 ∧ Live w wr b ms mo t1 ∧ wr.heap[g5]? = some (.cells badC 27 (0, 0)) ∧ wr.heap[g4]? = some (.cells (mCells goodM) 27 (0, 0))) (fun i _ => 8 - (intOf i).toNat)
          case atStart => exact ⟨0, rfl, Nat.zero_le _, HL9.out, HC9.out, HB9.out⟩
          case round =>
            obtain ⟨i, rfl, hi, hl, hc, hb⟩ := hrel
            have HL := Lib.hid hl
            have HC := Lib.hid hc
            have HB := Lib.hid hb
            clear hl hc hb HL9 HC9 HB9
            by_cases hli : i < 8
            · have d5 : decide ((i : Int) < 8) = true := by simp; omega
              have d6 : (i : Int) < 8 := by omega
              obtain ⟨m, hmay, hmok, hcells⟩ := bad_cells (t := 27) (g := g5) hli
              have HMW := Lib.hid (mwT_not (s := t1) m hmay)
              have HMO := Lib.hid hmok
              have HCL := Lib.hid hcells
              clear hmay hmok hcells
              go_wp2_with fail
              have hS : ∀ W : World, W.heap[g5]? = some (.cells badC 27 (0, 0)) → W.heap[g4]? = some (.cells (mCells goodM) 27 (0, 0)) → (W.cell? ⟨g5, i * 4, none⟩ = some (.int .i64 m.seq) ∧ W.cell? ⟨g5, i * 4 + 1, none⟩ = some (.int .i64 m.turn) ∧ W.cell? ⟨g5, i * 4 + 2, none⟩ = some (.int .i64 m.oldest) ∧ W.cell? ⟨g5, i * 4 + 3, none⟩ = some (.int .i64 m.mark)) ∧ (W.cell? ⟨g4, 0, none⟩ = some (.int .i64 2305843009213693952) ∧ W.cell? ⟨g4, 1, none⟩ = some (.int .i64 2147483647) ∧ W.cell? ⟨g4, 2, none⟩ = some (.int .i64 1152921504606846976) ∧ W.cell? ⟨g4, 3, none⟩ = some (.int .i64 1152921504606846976)) := fun W h1 h2 => ⟨HCL.out W h1, good_cells h2⟩
              have HSS := Lib.hid hS
              have h1 := hS wr HC.out HB.out
              clear hS
              go_region_held3 (fun W : World => (W.cell? ⟨g5, i * 4, none⟩ = some (.int .i64 m.seq) ∧ W.cell? ⟨g5, i * 4 + 1, none⟩ = some (.int .i64 m.turn) ∧ W.cell? ⟨g5, i * 4 + 2, none⟩ = some (.int .i64 m.oldest) ∧ W.cell? ⟨g5, i * 4 + 3, none⟩ = some (.int .i64 m.mark)) ∧ (W.cell? ⟨g4, 0, none⟩ = some (.int .i64 2305843009213693952) ∧ W.cell? ⟨g4, 1, none⟩ = some (.int .i64 2147483647) ∧ W.cell? ⟨g4, 2, none⟩ = some (.int .i64 1152921504606846976) ∧ W.cell? ⟨g4, 3, none⟩ = some (.int .i64 1152921504606846976)))
                (first | exact h1 | exact hS2 | exact HSS.out _ (Mod.get (S := none_) ((Mod.refl none_ _).alloc _) hc2 (fun e => e)) (Mod.get (S := none_) ((Mod.refl none_ _).alloc _) hb2 (fun e => e)) | exact hS3)
                (first | (go_at_call 13; refine (show Calls Try.prog 13 #[.pointer (some ⟨b, 0, none⟩), mV m] _ (fun e w' => e = .returned (.int .i64 2) ∧ Live w w' b ms mo t1 ∧ Mod (dkOwn b ms mo) _ w') from by have h := mk_write (HL.out.keep ((Mod.refl none_ wr).drew)) m; rw [HMW.out] at h; exact h).mono ?_; rintro e w2 ⟨rfl, hl2, hm2⟩; have hc2 := hm2.of_drew.get HC.out HN5.out; have hb2 := hm2.of_drew.get HB.out HN4.out; have hS2 := HSS.out w2 hc2 hb2)
                       | (go_at_call 6; refine (livesC (wr := w2) (m := m) ((Mod.refl none_ w2).alloc _) HMO.out (heap_alloc_new w2 _)).mono ?_; rintro e w3 ⟨rfl, hm3⟩; have hc3 := hm3.get hc2 (fun e => e); have hb3 := hm3.get hb2 (fun e => e); have hS3 := HSS.out w3 hc3 hb3))
              have HL3 := Lib.hid (hl2.keep hm3)
              have HC3 := Lib.hid hc3
              have HB3 := Lib.hid hb3
              clear hl2 hm2 hc2 hb2 hS2 hm3 hc3 hb3 hS3 h1
              go_wp2_with fail
              exact ⟨⟨i + 1, by go_num, by omega, HL3.out, HC3.out, HB3.out⟩, by simp [intOf]; omega⟩
            · have d5 : decide ((i : Int) < 8) = false := by simp; omega
              have d6 : ¬ (i : Int) < 8 := by omega
              clear HC
              go_wp2_with fail
              refine (mk_read HL.out).mono ?_
              rintro e w6 ⟨rfl, h6, hm6⟩
              rw [HR1.out]
              have HL6 := Lib.hid h6
              have HB6 := Lib.hid (hm6.get HB.out (fun e => e))
              clear h6 hm6 HL HB d5 d6
              go_wp2_with (with_reducible refine at_ (o := ⟨some 10, .alloc _, _, _, _, _⟩) ?_)
              refine un (wpList_alloc rfl 27 rfl (mCells zeroM) (run_zeroM _) ?_)
              intro w7 g7 hb7 hm7 hs7
              have HG7 := Lib.hid (show w.heap.size ≤ g7 ∧ ¬ dkOwn b ms mo g7 ∧ g4 ≠ g7 from ⟨by have := HL6.out.mod.size; omega, fun e => by have := HL6.out.at_.own_lt g7 e; omega, by have := blk_lt HB6.out; omega⟩)
              go_frame
              go_wp2_with (with_reducible refine at_ (o := ⟨none, .store _ _ _, _, _, _, _⟩) ?_)
              refine un (wpList_store rfl 27 _ _ rfl g7 rfl [.int .i64 2305843009213693952, .int .i64 2147483647, .int .i64 1152921504606846976, .int .i64 1152921504606846976] rfl _ _ hb7 (mCells_size zeroM) (by rw [mst_size]; rfl) (mCells_one goodM) ?_)
              intro w8 hb8 hm8
              have hm78 : Mod none_ w6 w8 := hm7.trans hm8 (fun r e hr => by omega)
              have HL8 := Lib.hid (HL6.out.keep hm78)
              have HB8 := Lib.hid (hm78.get HB6.out (fun e => e))
              have HA8 := Lib.hid (show w8.heap[g7]? = some (.cells (mCells goodM) 27 (0, 0)) from hb8)
              clear hb7 hm7 hs7 hb8 hm8 hm78 HL6 HB6
              obtain ⟨e0, e1, e2, e3⟩ := good_cells HB8.out
              obtain ⟨a0, a1, a2, a3⟩ := good_cells HA8.out
              go_frame
              go_wp2_with fail
              refine (show Calls Try.prog 13 #[.pointer (some ⟨b, 0, none⟩), mV threeM] _ _ from mk_write HL8.out threeM).mono ?_
              rintro e w9 ⟨rfl, h9, hm9⟩
              rw [HF2.out] at h9 ⊢
              have HL9 := Lib.hid h9
              have HA9 := Lib.hid (hm9.get HA8.out HG7.out.2.1)
              have HB9 := Lib.hid (hm9.get HB8.out HN4.out)
              clear h9 hm9 e0 e1 e2 e3 a0 a1 a2 a3 HL8 HA8 HB8
              go_wp2_with fail
              refine (mk_read HL9.out).mono ?_
              rintro e w10 ⟨rfl, h10, hm10⟩
              rw [HR2.out]
              have HL10 := Lib.hid h10
              have HA10 := Lib.hid (hm10.get HA9.out (fun e => e))
              have HB10 := Lib.hid (hm10.get HB9.out (fun e => e))
              clear h10 hm10 HL9 HA9 HB9
              go_wp2_with (with_reducible refine at_ (o := ⟨none, .store _ _ _, _, _, _, _⟩) ?_)
              refine un (wpList_store rfl 27 _ _ rfl g7 rfl [.int .i64 2305843009213693952, .int .i64 2147483647, .int .i64 1152921504606846976, .int .i64 1152921504606846976] rfl _ _ HA10.out (mCells_size goodM) (by rw [mst_size]; rfl) (mCells_one goodM) ?_)
              intro w11 hb11 hm11
              have HL11 := Lib.hid (live_own HL10.out hm11 HG7.out.1 HG7.out.2.1)
              have HB11 := Lib.hid (hm11.get HB10.out HG7.out.2.2)
              have HA11 := Lib.hid (show w11.heap[g7]? = some (.cells (mCells goodM) 27 (0, 0)) from hb11)
              clear hb11 hm11 HL10 HB10 HA10
              go_frame
              go_wp2_with fail
              refine (lv_read0 HL11.out 0 _ HL2.out HM2.out).mono ?_
              rintro e w12 ⟨v12, rfl, hr12, _, h12, hm12⟩
              have HM12 := Lib.hid h12.mod
              have HR12 := Lib.hid (hr12.mono (D' := fun _ => True) (fun _ _ _ => trivial))
              have HB12 := Lib.hid (hm12.get HB11.out (fun e => e))
              have HA12 := Lib.hid (hm12.get HA11.out (fun e => e))
              clear h12 hr12 hm12 HL11 HB11 HA11
              go_wp2_with fail
              obtain ⟨t3, f3, r3⟩ := nums_two
              have HF3 := Lib.hid f3
              have HR3 := Lib.hid r3
              clear f3 r3 HF1 HR1 HF2 HR2 HL2 HM2
              refine (new_yes 40 _ ⟨by omega, by omega⟩).mono ?_
              rintro e w13 ⟨b2, ms2, mo2, rfl, hd13, hm13, ho1, ho2, ho3⟩
              have HL13 := Lib.hid (show Live w w13 b2 ms2 mo2 (newS 40) from ⟨hd13, HM12.out.trans' hm13, by have := HM12.out.size; omega⟩)
              have HN13 := Lib.hid (show ¬ dkOwn b2 ms2 mo2 g4 from fun e => by have := blk_lt HB12.out; rcases e with e | e | e <;> omega)
              have HR13 := Lib.hid (HR12.out.keep hm13 (fun _ _ _ e => e))
              have HB13 := Lib.hid (hm13.get HB12.out (fun e => e))
              have HA13 := Lib.hid (hm13.get HA12.out (fun e => e))
              clear hd13 hm13 ho1 ho2 ho3 HM12 HR12 HB12 HA12
              obtain ⟨e0, e1, e2, e3⟩ := good_cells HB13.out
              obtain ⟨a0, a1, a2, a3⟩ := good_cells HA13.out
              go_wp2_with fail
              refine (lv_write_t HL13.out 1 (l := secM goodM) (by rw [secM_length]; exact HR13.out)).mono ?_
              rintro e w14 ⟨rfl, h14, hm14⟩
              rw [HF3.out] at h14 ⊢
              have HL14 := Lib.hid h14
              have HB14 := Lib.hid (hm14.get HB13.out HN13.out)
              clear h14 hm14 e0 e1 e2 e3 a0 a1 a2 a3 HL13 HR13 HB13 HA13
              go_wp2_with fail
              refine (mk_read HL14.out).mono ?_
              rintro e w15 ⟨rfl, h15, hm15⟩
              rw [HR3.out]
              have HM15 := Lib.hid h15.mod
              have HB15 := Lib.hid (hm15.get HB14.out (fun e => e))
              clear h15 hm15 HL14 HB14
              go_wp2_with fail
              refine (lv_new _ 39 ⟨by omega, by omega⟩ (Mod.refl none_ w15)).mono ?_
              rintro e w16 ⟨b3, ms3, mo3, rfl, h16⟩
              have HL16 := Lib.hid h16
              clear h16
              go_wp2_with fail
              refine (mk_read HL16.out).mono ?_
              rintro e w17 ⟨rfl, h17, _⟩
              rw [small39.1]
              have HM17 := Lib.hid (HM15.out.trans' h17.mod)
              have HB17 := Lib.hid (h17.mod.get HB15.out (fun e => e))
              clear h17 HL16 HM15 HB15
              go_wp2_with (with_reducible refine at_ (o := ⟨some 14, .alloc _, _, _, _, _⟩) ?_)
              refine un (wpList_alloc rfl 27 rfl (mCells zeroM) (run_zeroM _) ?_)
              intro w18 g18 hb18 hm18 hs18
              go_frame
              go_wp2_with (with_reducible refine at_ (o := ⟨none, .store _ _ _, _, _, _, _⟩) ?_)
              refine un (wpList_store rfl 27 _ _ rfl g18 rfl [.int .i64 0, .int .i64 0, .int .i64 0, .int .i64 0] rfl _ _ hb18 (mCells_size zeroM) (by rw [mst_size]; rfl) (mCells_one zeroM) ?_)
              intro w19 hb19 hm19
              have hm189 : Mod none_ w17 w19 := hm18.trans hm19 (fun r e hr => by omega)
              have HM19 := Lib.hid (HM17.out.trans' hm189)
              have HB19 := Lib.hid (hm189.get HB17.out (fun e => e))
              clear hb18 hm18 hs18 hb19 hm19 hm189 HM17 HB17
              have h1 := good_cells HB19.out
              go_frame
              go_wp2_with fail
              go_region_held3 (fun W : World => W.cell? ⟨g4, 0, none⟩ = some (.int .i64 2305843009213693952) ∧ W.cell? ⟨g4, 1, none⟩ = some (.int .i64 2147483647) ∧ W.cell? ⟨g4, 2, none⟩ = some (.int .i64 1152921504606846976) ∧ W.cell? ⟨g4, 3, none⟩ = some (.int .i64 1152921504606846976))
                (first | exact h1 | exact hS20 | exact hS21 | exact hS22 | exact hS23 | exact hS24)
                (first | (go_at_call 16; refine (lv_new _ 39 ⟨by omega, by omega⟩ (Mod.refl none_ _)).mono ?_; rintro e w20 ⟨b4, ms4, mo4, rfl, h20⟩; have hb20 := h20.mod.of_drew.get HB19.out (fun e => e); have hS20 := good_cells hb20)
                       | (go_at_call 14; refine (show Calls Try.prog 14 #[.pointer (some ⟨b4, 0, none⟩)] _ (fun e w' => e = .returned (.int .i64 2) ∧ Live w19.drew w' b4 ms4 mo4 (newS 39) ∧ Mod (dkOwn b4 ms4 mo4) _ w') from by have h := mk_format h20; rw [small39.2.1] at h; exact h).mono ?_; rintro e w21 ⟨rfl, h21, hm21⟩; have hb21 := h21.mod.of_drew.get HB19.out (fun e => e); have hS21 := good_cells hb21)
                       | (go_at_call 16; refine (lv_new w21 39 ⟨by omega, by omega⟩ (Mod.refl none_ w21)).mono ?_; rintro e w22 ⟨b5, ms5, mo5, rfl, h22⟩; have hb22 := h22.mod.get hb21 (fun e => e); have hS22 := good_cells hb22)
                       | (go_at_call 13; refine (show Calls Try.prog 13 #[.pointer (some ⟨b5, 0, none⟩), mV goodM] _ (fun e w' => e = .returned (.int .i64 2) ∧ Live w21 w' b5 ms5 mo5 (newS 39) ∧ Mod (dkOwn b5 ms5 mo5) _ w') from by have h := mk_write h22 goodM; rw [small39.2.2] at h; exact h).mono ?_; rintro e w23 ⟨rfl, h23, hm23⟩; have hb23 := h23.mod.get hb21 (fun e => e); have hS23 := good_cells hb23)
                       | (go_at_call 11; refine (awake25 _).mono ?_; rintro e w24 ⟨rfl, hm24⟩; have hS24 := good_cells (hm24.get hb23 (fun e => e))))
              have HM24 := Lib.hid (((HM19.out.trans' h21.mod.of_drew).trans' h23.mod).trans' hm24)
              clear h1 h20 hb20 hS20 h21 hm21 hb21 hS21 h22 hb22 hS22 h23 hm23 hb23 hS23 hm24 hS24
              go_wp2_with fail
              go_returns
              exact ⟨rfl, HM24.out⟩

end Go.Proofs.Ythkbnhoebijdoaa
