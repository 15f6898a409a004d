/-
  MarkKept: the walk.
-/
import Derived.Test.YthkbnhoebijdoaaMarkK
import Derived.Test.YthkbnhoebijdoaaMarkG
import Derived.Test.YthkbnhoebijdoaaArgK
import Derived.Deep.RegionHeld3
import Derived.StillTailTactics
import Derived.IntWalk
namespace Go.Proofs.Ythkbnhoebijdoaa
open Go Go.RowKit Go.SM

theorem i64_mask (n : Int) (k : Nat) (M : Int) (hk : k ≤ 62) (hM : (BitVec.ofInt 64 M).toNat = 2 ^ k - 1) : 0 ≤ bits .and .i64 n M ∧ bits .and .i64 n M < 2 ^ k := by
  have key : (BitVec.ofInt 64 n &&& BitVec.ofInt 64 M).toNat = (n % ((2 ^ 64 : Nat) : Int)).toNat % 2 ^ k := by
    rw [BitVec.toNat_and, BitVec.toNat_ofInt, hM, Nat.and_two_pow_sub_one_eq_mod]
  have e : bits .and .i64 n M = IntKind.i64.wrap ((BitVec.ofInt 64 n &&& BitVec.ofInt 64 M).toNat : Nat) := rfl
  rw [e, key, IntKind.wrap_i64]
  have h1 : (n % ((2 ^ 64 : Nat) : Int)).toNat % 2 ^ k < 2 ^ k := Nat.mod_lt _ (Nat.two_pow_pos k)
  have h2 : (2 : Nat) ^ k ≤ 2 ^ 62 := Nat.pow_le_pow_right (by omega) hk
  have h3 : ((2 ^ k : Nat) : Int) = (2 : Int) ^ k := by simp
  rw [← h3]
  generalize (n % ((2 ^ 64 : Nat) : Int)).toNat % 2 ^ k = x at *
  generalize 2 ^ k = y at *
  omega

theorem good_one {t : DS} (h : CalmD t) (hn : t.n = 40) (hfo : ∀ k, t.fo k = none) (hl : ∀ k, latS t k = if k = 1 then secM oneM else zs) : Good t oneM := by
  refine ⟨hn, h.d, hfo, by decide, by rw [hl]; rfl, fun i hi hne hk => ?_⟩
  have : i = 0 := by
    have e : oneM.seq % 2 = 1 := rfl
    rw [e] at hne
    omega
  subst this
  rw [hl] at hk
  exact absurd hk (by decide +kernel)

theorem flush_none {s : DS} (h : CalmD s) {m : Mst} (hm : m.may = true) : ∀ k, (mwT s m).2.fo k = none := by
  have hn := h.n
  have h1 := Int.emod_nonneg m.seq (show (2 : Int) ≠ 0 by omega)
  have h2 := Int.emod_lt_of_pos m.seq (show (0 : Int) < 2 by omega)
  unfold mwT
  rw [if_neg (by omega), if_neg (by rw [hm]; simp), writeT_calm h ⟨h1, by omega⟩ (secM_length m)]
  rw [if_neg (by simp), syncT_calm (h.put_ _ _)]
  intro k
  rfl

theorem format_none {s : DS} (h : CalmD s) (hz : ∀ k, latS s k = zs) : ∀ k, (fmT s).2.fo k = none := by
  have hn := h.n
  obtain ⟨t, h1, h2, h3, h4⟩ := fmGo_calm h hz s.n.toNat (by omega)
  unfold fmT
  rw [if_neg (by omega), h1]
  rw [if_neg (by simp), syncT_calm h2]
  rw [if_neg (by simp)]
  exact flush_none h2.flush (by decide)

theorem good_start : ∃ t, fmT (newS 40) = (0, t) ∧ Good t oneM := by
  obtain ⟨t1, f1, k1, n1, l1⟩ := fmT_calm (calm_new 40 (by omega)) (new_zs 40)
  have h := format_none (calm_new 40 (by omega)) (new_zs 40)
  rw [f1] at h
  exact ⟨t1, f1, good_one k1 (n1.trans rfl) h l1⟩

theorem live_own {w0 w w' : World} {b ms mo g : Nat} {s : DS} (h : Live w0 w b ms mo s) (hm : Mod (· = g) w w') (hg : w0.heap.size ≤ g) (hn : ¬ dkOwn b ms mo g) : Live w0 w' b ms mo s :=
  ⟨h.at_.keep hm (fun r hr e => hn (e ▸ hr)), h.mod.trans hm (fun r e _ => by omega), h.own⟩

set_option maxHeartbeats 8000000 in
set_option maxRecDepth 100000 in
theorem kept_walk (w : World) (v : Value) (xs : List DoM) (hx : RdDms w (Old w) v xs) :
    Calls Try.prog 8 #[v] w fun e w' => e = .returned (.bool true) ∧ Mod none_ w w' := by
  obtain ⟨A, c, hv, hlc⟩ := hx.slice
  subst hv
  obtain ⟨t1, hf1, hg1⟩ := good_start
  have HF1 := Lib.hid hf1
  have HG1 := Lib.hid hg1
  have HX := Lib.hid hx
  clear hx hf1 hg1
  have key : ∃ (n0 : Nat) (ys : List DoM), Hid (RdDms w (Old w) (.slice A n0 c) ys) ∧ Hid (n0 = ys.length ∧ n0 ≤ 40) ∧ ((40 < xs.length ∧ n0 = 40) ∨ (xs.length ≤ 40 ∧ n0 = xs.length)) := by
    by_cases h40 : 40 < xs.length
    · exact ⟨40, xs.take 40, Lib.hid (HX.out.take (n := 40) (by omega)), Lib.hid (by rw [List.length_take]; omega), .inl ⟨h40, rfl⟩⟩
    · exact ⟨xs.length, xs, HX, Lib.hid ⟨rfl, by omega⟩, .inr ⟨by omega, rfl⟩⟩
  obtain ⟨n0, ys, HX0, HN0, hn0⟩ := key
  clear HX
  rcases hn0 with ⟨h40, hn0⟩ | ⟨h40, hn0⟩
  · have d1 : decide ((40 : Int) < (xs.length : Int)) = true := by simp; omega
    have HNE := Lib.hid hn0
    clear hn0
    go_enter Try.func8, Try.ntmps8
    go_wp2_with fail
    refine (awake25 _).mono ?_
    rintro e w1 ⟨rfl, hm1⟩
    have HM1 := Lib.hid hm1
    clear hm1
    go_wp2_with fail
    refine (lv_new _ 40 ⟨by omega, by omega⟩ HM1.out).mono ?_
    rintro e w2 ⟨b, ms, mo, rfl, h2⟩
    have HL2 := Lib.hid h2
    clear h2
    rw [← HNE.out]
    go_wp2_with fail
    refine (mk_format HL2.out).mono ?_
    rintro e w3 ⟨rfl, h3, _⟩
    rw [HF1.out] at h3 ⊢
    have HL3 := Lib.hid h3
    clear h3 h40 d1 HNE
    go_wp2_with (with_reducible refine at_ (o := ⟨some 4, .alloc _, _, _, _, _⟩) ?_)
    refine un (wpList_alloc rfl 27 rfl (mCells zeroM) (run_zeroM _) ?_)
    intro w4 g4 hb4 hm4 hs4
    go_frame
    go_wp2_with (with_reducible refine at_ (o := ⟨none, .store _ _ _, _, _, _, _⟩) ?_)
    refine un (wpList_store rfl 27 _ _ rfl g4 rfl [.int .i64 1, .int .i64 1, .int .i64 1, .int .i64 0] rfl _ _ hb4 (mCells_size zeroM) (by rw [mst_size]; rfl) (mCells_one oneM) ?_)
    intro w5 hb5 hm5
    have HG4 := Lib.hid (show w.heap.size ≤ g4 ∧ ¬ dkOwn b ms mo g4 from ⟨by have := HL3.out.mod.size; omega, fun e => by have := HL3.out.at_.own_lt g4 e; omega⟩)
    have HL5 := Lib.hid (live_own (HL3.out.keep hm4) hm5 HG4.out.1 HG4.out.2)
    have HB5 := Lib.hid (show w5.heap[g4]? = some (.cells (mCells oneM) 27 (0, 0)) from hb5)
    clear hb4 hm4 hs4 hb5 hm5 HL2 HM1 HL3
    go_frame
    go_wp2_with fail
    go_loopw [5] (fun i wr => ∃ (j : Nat) (s : DS) (m : Mst), i = .int .i64 j ∧ j ≤ n0 ∧ Live w wr b ms mo s ∧ Good s m ∧ m.seq ≤ (j : Int) + 1 ∧ wr.heap[g4]? = some (.cells (mCells m) 27 (0, 0))) (fun i _ => n0 - (intOf i).toNat)
    case atStart => exact ⟨0, _, oneM, rfl, Nat.zero_le _, HL5.out, HG1.out, by show (1 : Int) ≤ _; omega, HB5.out⟩
    case round =>
      obtain ⟨j, s, m, rfl, hj, hl, hg, hsq, hb⟩ := hrel
      have HL := Lib.hid hl
      have HG := Lib.hid hg
      have HB := Lib.hid hb
      clear hl hg hb HL5 HB5 HG1 HF1
      by_cases hlt : j < n0
      · have hln := HN0.out
        have hjy : j < ys.length := by omega
        obtain ⟨g, o, c', he, hDg, hgl, hat, hok⟩ := (HX0.out.keep HL.out.mod (fun _ _ _ e => e)).at_ hjy
        simp only [Value.slice.injEq] at he
        obtain ⟨rfl, hne, rfl⟩ := he
        clear hne
        have HAT := Lib.hid hat
        have HOK := Lib.hid hok
        have HDG := Lib.hid (show g < w.heap.size from hDg)
        generalize ys[j] = x at *
        obtain ⟨fv, q6, hrf⟩ := HAT.out.c6
        obtain ⟨FA, FC, hfv⟩ := hrf.slice
        subst hfv
        have d2 : decide ((j : Int) < (n0 : Int)) = true := by simpa using hlt
        have e2 : (j : Int) < (n0 : Int) := by omega
        have HRF := Lib.hid hrf
        clear hat hok hDg hgl hrf hln
        by_cases hf : 1000 < x.fates.length
        · have d3 : decide ((1000 : Int) < (x.fates.length : Int)) = true := by simp; omega
          go_wp2_with fail
          go_returns
          exact ⟨rfl, HL.out.mod⟩
        · have d3 : decide ((1000 : Int) < (x.fates.length : Int)) = false := by simp; omega
          have q0 := HAT.out.c0
          have q1 := HAT.out.c1
          have q3 := HAT.out.c3
          have q4 := HAT.out.c4
          have q5 := HAT.out.c5
          obtain ⟨b0, b1, b2, b3⟩ := MstAt.of HB.out
          have hsq1 := Mst.may_seq HG.out.may
          have k1 := i64_mask x.m.turn 10 1023 (by omega) (by decide)
          have k2 := i64_mask x.m.oldest 16 65535 (by omega) (by decide)
          have k3 := i64_mask x.m.mark 16 65535 (by omega) (by decide)
          obtain ⟨a1, ha1⟩ : ∃ a, bits .and .i64 x.m.turn 1023 = a := ⟨_, rfl⟩
          obtain ⟨a2, ha2⟩ : ∃ a, bits .and .i64 x.m.oldest 65535 = a := ⟨_, rfl⟩
          obtain ⟨a3, ha3⟩ : ∃ a, bits .and .i64 x.m.mark 65535 = a := ⟨_, rfl⟩
          rw [ha1] at k1
          rw [ha2] at k2
          rw [ha3] at k3
          simp only [Int.reducePow] at k1 k2 k3
          have hjb : (j : Int) ≤ 40 := by have := HN0.out; omega
          have HY := Lib.hid (show (⟨m.seq + 1, 1 + a1, 1 + a2, a3⟩ : Mst).may = true by
            unfold Mst.may
            simp only [Bool.and_eq_true, decide_eq_true_eq]
            omega)
          go_wp2_with fail
          have hst : wr.cell? ⟨g4, 0, none⟩ = some (.int .i64 m.seq) ∧ wr.cell? ⟨g, o + j * 8 + 3, none⟩ = some (.int .i64 x.m.turn) ∧ wr.cell? ⟨g, o + j * 8 + 4, none⟩ = some (.int .i64 x.m.oldest) ∧ wr.cell? ⟨g, o + j * 8 + 5, none⟩ = some (.int .i64 x.m.mark) := ⟨b0, q3, q4, q5⟩
          have hload : ∀ W : World, Mod none_ wr W → W.cell? ⟨g4, 0, none⟩ = some (.int .i64 m.seq) ∧ W.cell? ⟨g, o + j * 8 + 3, none⟩ = some (.int .i64 x.m.turn) ∧ W.cell? ⟨g, o + j * 8 + 4, none⟩ = some (.int .i64 x.m.oldest) ∧ W.cell? ⟨g, o + j * 8 + 5, none⟩ = some (.int .i64 x.m.mark) :=
            fun W hW => ⟨hW.cell_eq b0 (fun e => e), hW.cell_eq q3 (fun e => e), hW.cell_eq q4 (fun e => e), hW.cell_eq q5 (fun e => e)⟩
          have hw1 : IntKind.i64.wrap (m.seq + 1) = m.seq + 1 := IntWalk.i64_in _ (by omega)
          have hw2 : IntKind.i64.wrap (1 + a1) = 1 + a1 := IntWalk.i64_in _ (by omega)
          have hw3 : IntKind.i64.wrap (1 + a2) = 1 + a2 := IntWalk.i64_in _ (by omega)
          go_region_held3 (fun W : World => W.cell? ⟨g4, 0, none⟩ = some (.int .i64 m.seq) ∧ W.cell? ⟨g, o + j * 8 + 3, none⟩ = some (.int .i64 x.m.turn) ∧ W.cell? ⟨g, o + j * 8 + 4, none⟩ = some (.int .i64 x.m.oldest) ∧ W.cell? ⟨g, o + j * 8 + 5, none⟩ = some (.int .i64 x.m.mark))
            (first | exact hst | exact hload _ (((Mod.refl _ _).alloc _).drew) | exact hload _ ((Mod.refl _ _).alloc _))
            (first | (fail))
          have hma : Mod none_ wr (wr.alloc (Obj.cells #[Value.int .i64 (m.seq + 1), Value.int .i64 (1 + a1), Value.int .i64 (1 + a2), Value.int .i64 a3] 27)).drew := ((Mod.refl none_ wr).alloc _).drew
          have hb6 : (wr.alloc (Obj.cells #[Value.int .i64 (m.seq + 1), Value.int .i64 (1 + a1), Value.int .i64 (1 + a2), Value.int .i64 a3] 27)).drew.heap[wr.heap.size]? = some (.cells (mCells ⟨m.seq + 1, 1 + a1, 1 + a2, a3⟩) 27 (0, 0)) := heap_alloc_new wr _
          generalize (wr.alloc (Obj.cells #[Value.int .i64 (m.seq + 1), Value.int .i64 (1 + a1), Value.int .i64 (1 + a2), Value.int .i64 a3] 27)).drew = w6 at *
          obtain ⟨y, hy⟩ : ∃ y : Mst, y = ⟨m.seq + 1, 1 + a1, 1 + a2, a3⟩ := ⟨_, rfl⟩
          have hys : y.seq = m.seq + 1 := by rw [hy]
          have HYM := Lib.hid (show y.may = true by rw [hy]; exact HY.out)
          rw [← hy] at hb6
          have HYS := Lib.hid hys
          obtain ⟨g6, hg6⟩ : ∃ g6, g6 = wr.heap.size := ⟨_, rfl⟩
          rw [← hg6] at hb6 ⊢
          have HG6 := Lib.hid (show w.heap.size ≤ g6 ∧ ¬ dkOwn b ms mo g6 ∧ g6 ≠ g4 from ⟨by have := HL.out.mod.size; omega, fun e => by have := HL.out.at_.own_lt g6 e; omega, fun e => by have := blk_lt HB.out; omega⟩)
          have HL6 := Lib.hid (HL.out.keep hma)
          have HB6 := Lib.hid (hma.get HB.out (fun e => e))
          have HC6 := Lib.hid hb6
          have HAT6 := Lib.hid (HAT.out.keep hma (fun _ _ _ e => e) HDG.out)
          have hk0 := Int.emod_nonneg x.n (show (4 : Int) ≠ 0 by omega)
          have hk4 := Int.emod_lt_of_pos x.n (show (0 : Int) < 4 by omega)
          clear hw1 hw2 hw3 hst hload hma hb6 hy hys hg6 HY k1 k2 k3 ha1 ha2 ha3 q0 q1 q3 q4 q5 q6 b0 b1 b2 b3 HL HB HAT d3
          have q1 := HAT6.out.c1
          go_wp2_with fail
          refine (pick_any x.n 4 _ ⟨by omega, by omega⟩).mono ?_
          rintro e w' ⟨rfl, rfl⟩
          generalize x.n % 4 = k at *
          have HK := Lib.hid (And.intro hk0 hk4)
          go_wp2_with fail
          refine (lv_arm HL6.out k _ rfl (by omega)).mono ?_
          rintro e w7 ⟨rfl, hl7, hm7⟩
          have HL7 := Lib.hid hl7
          have HB7 := Lib.hid (hm7.get HB6.out HG4.out.2)
          have HC7 := Lib.hid (hm7.get HC6.out HG6.out.2.1)
          have hOD : ∀ r, Old w r → r < w6.heap.size → ¬ dkOwn b ms mo r := fun r hr _ e => by have h1 := HL6.out.own; unfold Old at hr; rcases e with rfl | rfl | rfl <;> omega
          have HAT7 := Lib.hid (HAT6.out.keep hm7 hOD HDG.out)
          clear hl7 hm7 hk0 hk4 q1 hOD HL6 HB6 HC6 HAT6
          go_wp2_with (with_reducible refine at_ (o := ⟨some 71, _, _, _, _, _⟩) ?_)
          refine un (wpList_load rfl 27 _ rfl g6 0 rfl [.int .i64 y.seq, .int .i64 y.turn, .int .i64 y.oldest, .int .i64 y.mark] _ Try.underlying27 rfl (block_cells HC7.out) (by rw [mst_size]; rfl) ?_)
          go_frame
          go_wp2_with fail
          refine (show Calls Try.prog 13 #[.pointer (some ⟨b, 0, none⟩), mV y] _ _ from mk_write HL7.out y).mono ?_
          rintro e w8 ⟨rfl, hl8, hm8⟩
          have hE := (mw_armed HG.out HYM.out HK.out).1
          have hok1 := kept_ok HG.out HYM.out HYS.out HK.out
          have hok2 := kept_wake HG.out HYM.out HYS.out HK.out
          have HL8 := Lib.hid hl8
          have HB8 := Lib.hid (hm8.get HB7.out HG4.out.2)
          have HC8 := Lib.hid (hm8.get HC7.out HG6.out.2.1)
          have hOD : ∀ r, Old w r → r < w7.heap.size → ¬ dkOwn b ms mo r := fun r hr _ e => by have h1 := HL7.out.own; unfold Old at hr; rcases e with rfl | rfl | rfl <;> omega
          have HAT8 := Lib.hid (HAT7.out.keep hm8 hOD HDG.out)
          clear hl8 hm8 hOD HL7 HB7 HC7 HAT7
          generalize (mwT (armS s k) y).2 = s8 at *
          have hEE : (mwT (armS s k) y).1 = 0 ∨ (mwT (armS s k) y).1 = 8 := by
            rcases hE with h | h
            · exact .inl h.1
            · exact .inr h.1
          clear hE
          generalize (mwT (armS s k) y).1 = E at *
          have HO1 := Lib.hid hok1
          have HO2 := Lib.hid hok2
          clear hok1 hok2
          have q0 := HAT8.out.c0
          obtain ⟨fv8, q6, hrf8⟩ := HAT8.out.c6
          obtain ⟨FA8, FC8, hfv8⟩ := hrf8.slice
          subst hfv8
          have HRF8 := Lib.hid hrf8
          clear hrf8
          have HI := Lib.hid hEE
          rcases hEE with hE0 | hE8
          · subst hE0
            have hfa : ¬ 1000 < x.fates.length := hf
            by_cases hop : x.op.tmod 2 = 0
            · have dop : (x.op.tmod 2 == 0) = true := by simpa using hop
              go_wp2_with fail
              refine (lv_wake HL8.out HRF8.out (fun r hr _ e => by have h1 := HL8.out.own; unfold Old at hr; rcases e with rfl | rfl | rfl <;> omega) _ rfl (by omega)).mono ?_
              rintro e w9 ⟨rfl, hl9, hm9⟩
              have HL9 := Lib.hid hl9
              have HB9 := Lib.hid (hm9.get HB8.out HG4.out.2)
              have HC9 := Lib.hid (hm9.get HC8.out HG6.out.2.1)
              clear hl9 hm9 q0 q6 dop hop
              have HGD := Lib.hid ((HO2.out x.fates).resolve_right (fun h => by have := h.1; omega))
              obtain ⟨e0, e1, e2, e3⟩ := MstAt.of HC9.out
              obtain ⟨f0, f1, f2, f3⟩ := MstAt.of HB9.out
              go_wp2_with fail
              refine (mk_read HL9.out).mono ?_
              rintro e w10 ⟨rfl, hl10, hm10⟩
              rw [HGD.out.rd]
              have HL10 := Lib.hid hl10
              have HB10 := Lib.hid (hm10.get HB9.out (fun e => e))
              have HC10 := Lib.hid (hm10.get HC9.out (fun e => e))
              clear hl10 hm10 e0 e1 e2 e3 f0 f1 f2 f3
              go_wp2_with (with_reducible refine at_ (o := ⟨some 8, .alloc _, _, _, _, _⟩) ?_)
              refine un (wpList_alloc rfl 27 rfl (mCells zeroM) (run_zeroM _) ?_)
              intro w11 g8 hb11 hm11 hs11
              have HG8 := Lib.hid (show w.heap.size ≤ g8 ∧ ¬ dkOwn b ms mo g8 ∧ g4 ≠ g8 ∧ g6 ≠ g8 from ⟨by have := HL10.out.mod.size; omega, fun e => by have := HL10.out.at_.own_lt g8 e; omega, by have := blk_lt HB10.out; omega, by have := blk_lt HC10.out; omega⟩)
              have HL11 := Lib.hid (HL10.out.keep hm11)
              have HB11 := Lib.hid (hm11.get HB10.out (fun e => e))
              have HC11 := Lib.hid (hm11.get HC10.out (fun e => e))
              have HA11 := Lib.hid hb11
              clear hb11 hm11 hs11
              go_frame
              go_wp2_with (with_reducible refine at_ (o := ⟨none, .store _ _ _, _, _, _, _⟩) ?_)
              refine un (wpList_store rfl 27 _ _ rfl g8 rfl [.int .i64 y.seq, .int .i64 y.turn, .int .i64 y.oldest, .int .i64 y.mark] rfl _ _ HA11.out (mCells_size zeroM) (by rw [mst_size]; rfl) (mCells_one y) ?_)
              intro w12 hb12 hm12
              have HL12 := Lib.hid (live_own HL11.out hm12 HG8.out.1 HG8.out.2.1)
              have HB12 := Lib.hid (hm12.get HB11.out HG8.out.2.2.1)
              have HC12 := Lib.hid (hm12.get HC11.out HG8.out.2.2.2)
              have HA12 := Lib.hid (show w12.heap[g8]? = some (.cells (mCells y) 27 (0, 0)) from hb12)
              clear hb12 hm12 HL9 HB9 HC9 HL10 HB10 HC10 HL11 HB11 HC11 HA11
              obtain ⟨e0, e1, e2, e3⟩ := MstAt.of HC12.out
              obtain ⟨f0, f1, f2, f3⟩ := MstAt.of HB12.out
              obtain ⟨a0, a1, a2, a3⟩ := MstAt.of HA12.out
              go_frame
              go_wp2_with (with_reducible refine at_ (o := ⟨some 118, _, _, _, _, _⟩) ?_)
              refine un (wpList_load rfl 27 _ rfl g8 0 rfl [.int .i64 y.seq, .int .i64 y.turn, .int .i64 y.oldest, .int .i64 y.mark] _ Try.underlying27 rfl (block_cells HA12.out) (by rw [mst_size]; rfl) ?_)
              clear e0 e1 e2 e3 f0 f1 f2 f3 a0 a1 a2 a3
              go_frame
              go_wp2_with (with_reducible refine at_ (o := ⟨none, .store _ _ _, _, _, _, _⟩) ?_)
              refine un (wpList_store rfl 27 _ _ rfl g4 rfl [.int .i64 y.seq, .int .i64 y.turn, .int .i64 y.oldest, .int .i64 y.mark] rfl _ _ HB12.out (mCells_size m) (by rw [mst_size]; rfl) (mCells_one y) ?_)
              intro w13 hb13 hm13
              have HL13 := Lib.hid (live_own HL12.out hm13 HG4.out.1 HG4.out.2)
              have HB13 := Lib.hid (show w13.heap[g4]? = some (.cells (mCells y) 27 (0, 0)) from hb13)
              clear hb13 hm13
              go_frame
              go_wp2_with fail
              exact ⟨⟨j + 1, _, y, by go_num, by omega, HL13.out, HGD.out, by have := HYS.out; omega, HB13.out⟩, by simp [intOf]; omega⟩
            · have dop : (x.op.tmod 2 == 0) = false := by rw [beq_eq_false_iff_ne]; exact hop
              clear q6 hop
              have HL9 := HL8
              have HB9 := HB8
              have HC9 := HC8
              have HGD := Lib.hid (HO1.out rfl)
              clear HL8 HB8 HC8
              obtain ⟨e0, e1, e2, e3⟩ := MstAt.of HC9.out
              obtain ⟨f0, f1, f2, f3⟩ := MstAt.of HB9.out
              go_wp2_with fail
              refine (mk_read HL9.out).mono ?_
              rintro e w10 ⟨rfl, hl10, hm10⟩
              rw [HGD.out.rd]
              have HL10 := Lib.hid hl10
              have HB10 := Lib.hid (hm10.get HB9.out (fun e => e))
              have HC10 := Lib.hid (hm10.get HC9.out (fun e => e))
              clear hl10 hm10 e0 e1 e2 e3 f0 f1 f2 f3
              go_wp2_with (with_reducible refine at_ (o := ⟨some 8, .alloc _, _, _, _, _⟩) ?_)
              refine un (wpList_alloc rfl 27 rfl (mCells zeroM) (run_zeroM _) ?_)
              intro w11 g8 hb11 hm11 hs11
              have HG8 := Lib.hid (show w.heap.size ≤ g8 ∧ ¬ dkOwn b ms mo g8 ∧ g4 ≠ g8 ∧ g6 ≠ g8 from ⟨by have := HL10.out.mod.size; omega, fun e => by have := HL10.out.at_.own_lt g8 e; omega, by have := blk_lt HB10.out; omega, by have := blk_lt HC10.out; omega⟩)
              have HL11 := Lib.hid (HL10.out.keep hm11)
              have HB11 := Lib.hid (hm11.get HB10.out (fun e => e))
              have HC11 := Lib.hid (hm11.get HC10.out (fun e => e))
              have HA11 := Lib.hid hb11
              clear hb11 hm11 hs11
              go_frame
              go_wp2_with (with_reducible refine at_ (o := ⟨none, .store _ _ _, _, _, _, _⟩) ?_)
              refine un (wpList_store rfl 27 _ _ rfl g8 rfl [.int .i64 y.seq, .int .i64 y.turn, .int .i64 y.oldest, .int .i64 y.mark] rfl _ _ HA11.out (mCells_size zeroM) (by rw [mst_size]; rfl) (mCells_one y) ?_)
              intro w12 hb12 hm12
              have HL12 := Lib.hid (live_own HL11.out hm12 HG8.out.1 HG8.out.2.1)
              have HB12 := Lib.hid (hm12.get HB11.out HG8.out.2.2.1)
              have HC12 := Lib.hid (hm12.get HC11.out HG8.out.2.2.2)
              have HA12 := Lib.hid (show w12.heap[g8]? = some (.cells (mCells y) 27 (0, 0)) from hb12)
              clear hb12 hm12 HL9 HB9 HC9 HL10 HB10 HC10 HL11 HB11 HC11 HA11
              obtain ⟨e0, e1, e2, e3⟩ := MstAt.of HC12.out
              obtain ⟨f0, f1, f2, f3⟩ := MstAt.of HB12.out
              obtain ⟨a0, a1, a2, a3⟩ := MstAt.of HA12.out
              go_frame
              go_wp2_with (with_reducible refine at_ (o := ⟨some 118, _, _, _, _, _⟩) ?_)
              refine un (wpList_load rfl 27 _ rfl g8 0 rfl [.int .i64 y.seq, .int .i64 y.turn, .int .i64 y.oldest, .int .i64 y.mark] _ Try.underlying27 rfl (block_cells HA12.out) (by rw [mst_size]; rfl) ?_)
              clear e0 e1 e2 e3 f0 f1 f2 f3 a0 a1 a2 a3
              go_frame
              go_wp2_with (with_reducible refine at_ (o := ⟨none, .store _ _ _, _, _, _, _⟩) ?_)
              refine un (wpList_store rfl 27 _ _ rfl g4 rfl [.int .i64 y.seq, .int .i64 y.turn, .int .i64 y.oldest, .int .i64 y.mark] rfl _ _ HB12.out (mCells_size m) (by rw [mst_size]; rfl) (mCells_one y) ?_)
              intro w13 hb13 hm13
              have HL13 := Lib.hid (live_own HL12.out hm13 HG4.out.1 HG4.out.2)
              have HB13 := Lib.hid (show w13.heap[g4]? = some (.cells (mCells y) 27 (0, 0)) from hb13)
              clear hb13 hm13
              go_frame
              go_wp2_with fail
              exact ⟨⟨j + 1, _, y, by go_num, by omega, HL13.out, HGD.out, by have := HYS.out; omega, HB13.out⟩, by simp [intOf]; omega⟩
          · subst hE8
            have hfa : ¬ 1000 < x.fates.length := hf
            by_cases hop : x.op.tmod 2 = 0
            · have dop : (x.op.tmod 2 == 0) = true := by simpa using hop
              go_wp2_with fail
              refine (lv_wake HL8.out HRF8.out (fun r hr _ e => by have h1 := HL8.out.own; unfold Old at hr; rcases e with rfl | rfl | rfl <;> omega) _ rfl (by omega)).mono ?_
              rintro e w9 ⟨rfl, hl9, hm9⟩
              have HL9 := Lib.hid hl9
              have HB9 := Lib.hid (hm9.get HB8.out HG4.out.2)
              have HC9 := Lib.hid (hm9.get HC8.out HG6.out.2.1)
              clear hl9 hm9 q0 q6 dop hop
              rcases HO2.out x.fates with hgd | ⟨_, hgd⟩
              · have HGD := Lib.hid hgd
                clear hgd
                obtain ⟨e0, e1, e2, e3⟩ := MstAt.of HC9.out
                obtain ⟨f0, f1, f2, f3⟩ := MstAt.of HB9.out
                go_wp2_with fail
                refine (mk_read HL9.out).mono ?_
                rintro e w10 ⟨rfl, hl10, hm10⟩
                rw [HGD.out.rd]
                have HL10 := Lib.hid hl10
                have HB10 := Lib.hid (hm10.get HB9.out (fun e => e))
                have HC10 := Lib.hid (hm10.get HC9.out (fun e => e))
                clear hl10 hm10 e0 e1 e2 e3 f0 f1 f2 f3
                go_wp2_with (with_reducible refine at_ (o := ⟨some 8, .alloc _, _, _, _, _⟩) ?_)
                refine un (wpList_alloc rfl 27 rfl (mCells zeroM) (run_zeroM _) ?_)
                intro w11 g8 hb11 hm11 hs11
                have HG8 := Lib.hid (show w.heap.size ≤ g8 ∧ ¬ dkOwn b ms mo g8 ∧ g4 ≠ g8 ∧ g6 ≠ g8 from ⟨by have := HL10.out.mod.size; omega, fun e => by have := HL10.out.at_.own_lt g8 e; omega, by have := blk_lt HB10.out; omega, by have := blk_lt HC10.out; omega⟩)
                have HL11 := Lib.hid (HL10.out.keep hm11)
                have HB11 := Lib.hid (hm11.get HB10.out (fun e => e))
                have HC11 := Lib.hid (hm11.get HC10.out (fun e => e))
                have HA11 := Lib.hid hb11
                clear hb11 hm11 hs11
                go_frame
                go_wp2_with (with_reducible refine at_ (o := ⟨none, .store _ _ _, _, _, _, _⟩) ?_)
                refine un (wpList_store rfl 27 _ _ rfl g8 rfl [.int .i64 y.seq, .int .i64 y.turn, .int .i64 y.oldest, .int .i64 y.mark] rfl _ _ HA11.out (mCells_size zeroM) (by rw [mst_size]; rfl) (mCells_one y) ?_)
                intro w12 hb12 hm12
                have HL12 := Lib.hid (live_own HL11.out hm12 HG8.out.1 HG8.out.2.1)
                have HB12 := Lib.hid (hm12.get HB11.out HG8.out.2.2.1)
                have HC12 := Lib.hid (hm12.get HC11.out HG8.out.2.2.2)
                have HA12 := Lib.hid (show w12.heap[g8]? = some (.cells (mCells y) 27 (0, 0)) from hb12)
                clear hb12 hm12 HL9 HB9 HC9 HL10 HB10 HC10 HL11 HB11 HC11 HA11
                obtain ⟨e0, e1, e2, e3⟩ := MstAt.of HC12.out
                obtain ⟨f0, f1, f2, f3⟩ := MstAt.of HB12.out
                obtain ⟨a0, a1, a2, a3⟩ := MstAt.of HA12.out
                go_frame
                go_wp2_with (with_reducible refine at_ (o := ⟨some 118, _, _, _, _, _⟩) ?_)
                refine un (wpList_load rfl 27 _ rfl g8 0 rfl [.int .i64 y.seq, .int .i64 y.turn, .int .i64 y.oldest, .int .i64 y.mark] _ Try.underlying27 rfl (block_cells HA12.out) (by rw [mst_size]; rfl) ?_)
                clear e0 e1 e2 e3 f0 f1 f2 f3 a0 a1 a2 a3
                go_frame
                go_wp2_with (with_reducible refine at_ (o := ⟨none, .store _ _ _, _, _, _, _⟩) ?_)
                refine un (wpList_store rfl 27 _ _ rfl g4 rfl [.int .i64 y.seq, .int .i64 y.turn, .int .i64 y.oldest, .int .i64 y.mark] rfl _ _ HB12.out (mCells_size m) (by rw [mst_size]; rfl) (mCells_one y) ?_)
                intro w13 hb13 hm13
                have HL13 := Lib.hid (live_own HL12.out hm13 HG4.out.1 HG4.out.2)
                have HB13 := Lib.hid (show w13.heap[g4]? = some (.cells (mCells y) 27 (0, 0)) from hb13)
                clear hb13 hm13
                go_frame
                go_wp2_with fail
                exact ⟨⟨j + 1, _, y, by go_num, by omega, HL13.out, HGD.out, by have := HYS.out; omega, HB13.out⟩, by simp [intOf]; omega⟩
              · have HGD := Lib.hid hgd
                clear hgd
                have dne : (m.seq == y.seq) = false := by have := HYS.out; rw [beq_eq_false_iff_ne]; omega
                obtain ⟨e0, e1, e2, e3⟩ := MstAt.of HC9.out
                obtain ⟨f0, f1, f2, f3⟩ := MstAt.of HB9.out
                go_wp2_with fail
                refine (mk_read HL9.out).mono ?_
                rintro e w10 ⟨rfl, hl10, hm10⟩
                rw [HGD.out.rd]
                have HL10 := Lib.hid hl10
                have HB10 := Lib.hid (hm10.get HB9.out (fun e => e))
                have HC10 := Lib.hid (hm10.get HC9.out (fun e => e))
                clear hl10 hm10 e0 e1 e2 e3 f0 f1 f2 f3
                go_wp2_with (with_reducible refine at_ (o := ⟨some 8, .alloc _, _, _, _, _⟩) ?_)
                refine un (wpList_alloc rfl 27 rfl (mCells zeroM) (run_zeroM _) ?_)
                intro w11 g8 hb11 hm11 hs11
                have HG8 := Lib.hid (show w.heap.size ≤ g8 ∧ ¬ dkOwn b ms mo g8 ∧ g4 ≠ g8 ∧ g6 ≠ g8 from ⟨by have := HL10.out.mod.size; omega, fun e => by have := HL10.out.at_.own_lt g8 e; omega, by have := blk_lt HB10.out; omega, by have := blk_lt HC10.out; omega⟩)
                have HL11 := Lib.hid (HL10.out.keep hm11)
                have HB11 := Lib.hid (hm11.get HB10.out (fun e => e))
                have HC11 := Lib.hid (hm11.get HC10.out (fun e => e))
                have HA11 := Lib.hid hb11
                clear hb11 hm11 hs11
                go_frame
                go_wp2_with (with_reducible refine at_ (o := ⟨none, .store _ _ _, _, _, _, _⟩) ?_)
                refine un (wpList_store rfl 27 _ _ rfl g8 rfl [.int .i64 m.seq, .int .i64 m.turn, .int .i64 m.oldest, .int .i64 m.mark] rfl _ _ HA11.out (mCells_size zeroM) (by rw [mst_size]; rfl) (mCells_one m) ?_)
                intro w12 hb12 hm12
                have HL12 := Lib.hid (live_own HL11.out hm12 HG8.out.1 HG8.out.2.1)
                have HB12 := Lib.hid (hm12.get HB11.out HG8.out.2.2.1)
                have HC12 := Lib.hid (hm12.get HC11.out HG8.out.2.2.2)
                have HA12 := Lib.hid (show w12.heap[g8]? = some (.cells (mCells m) 27 (0, 0)) from hb12)
                clear hb12 hm12 HL9 HB9 HC9 HL10 HB10 HC10 HL11 HB11 HC11 HA11
                obtain ⟨e0, e1, e2, e3⟩ := MstAt.of HC12.out
                obtain ⟨f0, f1, f2, f3⟩ := MstAt.of HB12.out
                obtain ⟨a0, a1, a2, a3⟩ := MstAt.of HA12.out
                go_frame
                go_wp2_with (with_reducible refine at_ (o := ⟨some 118, _, _, _, _, _⟩) ?_)
                refine un (wpList_load rfl 27 _ rfl g8 0 rfl [.int .i64 m.seq, .int .i64 m.turn, .int .i64 m.oldest, .int .i64 m.mark] _ Try.underlying27 rfl (block_cells HA12.out) (by rw [mst_size]; rfl) ?_)
                clear e0 e1 e2 e3 f0 f1 f2 f3 a0 a1 a2 a3
                go_frame
                go_wp2_with (with_reducible refine at_ (o := ⟨none, .store _ _ _, _, _, _, _⟩) ?_)
                refine un (wpList_store rfl 27 _ _ rfl g4 rfl [.int .i64 m.seq, .int .i64 m.turn, .int .i64 m.oldest, .int .i64 m.mark] rfl _ _ HB12.out (mCells_size m) (by rw [mst_size]; rfl) (mCells_one m) ?_)
                intro w13 hb13 hm13
                have HL13 := Lib.hid (live_own HL12.out hm13 HG4.out.1 HG4.out.2)
                have HB13 := Lib.hid (show w13.heap[g4]? = some (.cells (mCells m) 27 (0, 0)) from hb13)
                clear hb13 hm13
                go_frame
                go_wp2_with fail
                exact ⟨⟨j + 1, _, m, by go_num, by omega, HL13.out, HGD.out, by have := HYS.out; omega, HB13.out⟩, by simp [intOf]; omega⟩
            · have dop : (x.op.tmod 2 == 0) = false := by rw [beq_eq_false_iff_ne]; exact hop
              go_wp2_with fail
              refine (lv_wake HL8.out HRF8.out (fun r hr _ e => by have h1 := HL8.out.own; unfold Old at hr; rcases e with rfl | rfl | rfl <;> omega) _ rfl (by omega)).mono ?_
              rintro e w9 ⟨rfl, hl9, hm9⟩
              have HL9 := Lib.hid hl9
              have HB9 := Lib.hid (hm9.get HB8.out HG4.out.2)
              have HC9 := Lib.hid (hm9.get HC8.out HG6.out.2.1)
              clear hl9 hm9 q0 q6 dop hop
              rcases HO2.out x.fates with hgd | ⟨_, hgd⟩
              · have HGD := Lib.hid hgd
                clear hgd
                obtain ⟨e0, e1, e2, e3⟩ := MstAt.of HC9.out
                obtain ⟨f0, f1, f2, f3⟩ := MstAt.of HB9.out
                go_wp2_with fail
                refine (mk_read HL9.out).mono ?_
                rintro e w10 ⟨rfl, hl10, hm10⟩
                rw [HGD.out.rd]
                have HL10 := Lib.hid hl10
                have HB10 := Lib.hid (hm10.get HB9.out (fun e => e))
                have HC10 := Lib.hid (hm10.get HC9.out (fun e => e))
                clear hl10 hm10 e0 e1 e2 e3 f0 f1 f2 f3
                go_wp2_with (with_reducible refine at_ (o := ⟨some 8, .alloc _, _, _, _, _⟩) ?_)
                refine un (wpList_alloc rfl 27 rfl (mCells zeroM) (run_zeroM _) ?_)
                intro w11 g8 hb11 hm11 hs11
                have HG8 := Lib.hid (show w.heap.size ≤ g8 ∧ ¬ dkOwn b ms mo g8 ∧ g4 ≠ g8 ∧ g6 ≠ g8 from ⟨by have := HL10.out.mod.size; omega, fun e => by have := HL10.out.at_.own_lt g8 e; omega, by have := blk_lt HB10.out; omega, by have := blk_lt HC10.out; omega⟩)
                have HL11 := Lib.hid (HL10.out.keep hm11)
                have HB11 := Lib.hid (hm11.get HB10.out (fun e => e))
                have HC11 := Lib.hid (hm11.get HC10.out (fun e => e))
                have HA11 := Lib.hid hb11
                clear hb11 hm11 hs11
                go_frame
                go_wp2_with (with_reducible refine at_ (o := ⟨none, .store _ _ _, _, _, _, _⟩) ?_)
                refine un (wpList_store rfl 27 _ _ rfl g8 rfl [.int .i64 y.seq, .int .i64 y.turn, .int .i64 y.oldest, .int .i64 y.mark] rfl _ _ HA11.out (mCells_size zeroM) (by rw [mst_size]; rfl) (mCells_one y) ?_)
                intro w12 hb12 hm12
                have HL12 := Lib.hid (live_own HL11.out hm12 HG8.out.1 HG8.out.2.1)
                have HB12 := Lib.hid (hm12.get HB11.out HG8.out.2.2.1)
                have HC12 := Lib.hid (hm12.get HC11.out HG8.out.2.2.2)
                have HA12 := Lib.hid (show w12.heap[g8]? = some (.cells (mCells y) 27 (0, 0)) from hb12)
                clear hb12 hm12 HL9 HB9 HC9 HL10 HB10 HC10 HL11 HB11 HC11 HA11
                obtain ⟨e0, e1, e2, e3⟩ := MstAt.of HC12.out
                obtain ⟨f0, f1, f2, f3⟩ := MstAt.of HB12.out
                obtain ⟨a0, a1, a2, a3⟩ := MstAt.of HA12.out
                go_frame
                go_wp2_with (with_reducible refine at_ (o := ⟨some 118, _, _, _, _, _⟩) ?_)
                refine un (wpList_load rfl 27 _ rfl g8 0 rfl [.int .i64 y.seq, .int .i64 y.turn, .int .i64 y.oldest, .int .i64 y.mark] _ Try.underlying27 rfl (block_cells HA12.out) (by rw [mst_size]; rfl) ?_)
                clear e0 e1 e2 e3 f0 f1 f2 f3 a0 a1 a2 a3
                go_frame
                go_wp2_with (with_reducible refine at_ (o := ⟨none, .store _ _ _, _, _, _, _⟩) ?_)
                refine un (wpList_store rfl 27 _ _ rfl g4 rfl [.int .i64 y.seq, .int .i64 y.turn, .int .i64 y.oldest, .int .i64 y.mark] rfl _ _ HB12.out (mCells_size m) (by rw [mst_size]; rfl) (mCells_one y) ?_)
                intro w13 hb13 hm13
                have HL13 := Lib.hid (live_own HL12.out hm13 HG4.out.1 HG4.out.2)
                have HB13 := Lib.hid (show w13.heap[g4]? = some (.cells (mCells y) 27 (0, 0)) from hb13)
                clear hb13 hm13
                go_frame
                go_wp2_with fail
                exact ⟨⟨j + 1, _, y, by go_num, by omega, HL13.out, HGD.out, by have := HYS.out; omega, HB13.out⟩, by simp [intOf]; omega⟩
              · have HGD := Lib.hid hgd
                clear hgd
                have dne : (m.seq == y.seq) = false := by have := HYS.out; rw [beq_eq_false_iff_ne]; omega
                obtain ⟨e0, e1, e2, e3⟩ := MstAt.of HC9.out
                obtain ⟨f0, f1, f2, f3⟩ := MstAt.of HB9.out
                go_wp2_with fail
                refine (mk_read HL9.out).mono ?_
                rintro e w10 ⟨rfl, hl10, hm10⟩
                rw [HGD.out.rd]
                have HL10 := Lib.hid hl10
                have HB10 := Lib.hid (hm10.get HB9.out (fun e => e))
                have HC10 := Lib.hid (hm10.get HC9.out (fun e => e))
                clear hl10 hm10 e0 e1 e2 e3 f0 f1 f2 f3
                go_wp2_with (with_reducible refine at_ (o := ⟨some 8, .alloc _, _, _, _, _⟩) ?_)
                refine un (wpList_alloc rfl 27 rfl (mCells zeroM) (run_zeroM _) ?_)
                intro w11 g8 hb11 hm11 hs11
                have HG8 := Lib.hid (show w.heap.size ≤ g8 ∧ ¬ dkOwn b ms mo g8 ∧ g4 ≠ g8 ∧ g6 ≠ g8 from ⟨by have := HL10.out.mod.size; omega, fun e => by have := HL10.out.at_.own_lt g8 e; omega, by have := blk_lt HB10.out; omega, by have := blk_lt HC10.out; omega⟩)
                have HL11 := Lib.hid (HL10.out.keep hm11)
                have HB11 := Lib.hid (hm11.get HB10.out (fun e => e))
                have HC11 := Lib.hid (hm11.get HC10.out (fun e => e))
                have HA11 := Lib.hid hb11
                clear hb11 hm11 hs11
                go_frame
                go_wp2_with (with_reducible refine at_ (o := ⟨none, .store _ _ _, _, _, _, _⟩) ?_)
                refine un (wpList_store rfl 27 _ _ rfl g8 rfl [.int .i64 m.seq, .int .i64 m.turn, .int .i64 m.oldest, .int .i64 m.mark] rfl _ _ HA11.out (mCells_size zeroM) (by rw [mst_size]; rfl) (mCells_one m) ?_)
                intro w12 hb12 hm12
                have HL12 := Lib.hid (live_own HL11.out hm12 HG8.out.1 HG8.out.2.1)
                have HB12 := Lib.hid (hm12.get HB11.out HG8.out.2.2.1)
                have HC12 := Lib.hid (hm12.get HC11.out HG8.out.2.2.2)
                have HA12 := Lib.hid (show w12.heap[g8]? = some (.cells (mCells m) 27 (0, 0)) from hb12)
                clear hb12 hm12 HL9 HB9 HC9 HL10 HB10 HC10 HL11 HB11 HC11 HA11
                obtain ⟨e0, e1, e2, e3⟩ := MstAt.of HC12.out
                obtain ⟨f0, f1, f2, f3⟩ := MstAt.of HB12.out
                obtain ⟨a0, a1, a2, a3⟩ := MstAt.of HA12.out
                go_frame
                go_wp2_with (with_reducible refine at_ (o := ⟨some 118, _, _, _, _, _⟩) ?_)
                refine un (wpList_load rfl 27 _ rfl g8 0 rfl [.int .i64 m.seq, .int .i64 m.turn, .int .i64 m.oldest, .int .i64 m.mark] _ Try.underlying27 rfl (block_cells HA12.out) (by rw [mst_size]; rfl) ?_)
                clear e0 e1 e2 e3 f0 f1 f2 f3 a0 a1 a2 a3
                go_frame
                go_wp2_with (with_reducible refine at_ (o := ⟨none, .store _ _ _, _, _, _, _⟩) ?_)
                refine un (wpList_store rfl 27 _ _ rfl g4 rfl [.int .i64 m.seq, .int .i64 m.turn, .int .i64 m.oldest, .int .i64 m.mark] rfl _ _ HB12.out (mCells_size m) (by rw [mst_size]; rfl) (mCells_one m) ?_)
                intro w13 hb13 hm13
                have HL13 := Lib.hid (live_own HL12.out hm13 HG4.out.1 HG4.out.2)
                have HB13 := Lib.hid (show w13.heap[g4]? = some (.cells (mCells m) 27 (0, 0)) from hb13)
                clear hb13 hm13
                go_frame
                go_wp2_with fail
                exact ⟨⟨j + 1, _, m, by go_num, by omega, HL13.out, HGD.out, by have := HYS.out; omega, HB13.out⟩, by simp [intOf]; omega⟩
      · have d2 : decide ((j : Int) < (n0 : Int)) = false := by simpa using hlt
        go_wp2_with fail
        go_returns
        exact ⟨rfl, HL.out.mod⟩
  · have d1 : decide ((40 : Int) < (xs.length : Int)) = false := by simp; omega
    have HNE := Lib.hid hn0
    clear hn0
    go_enter Try.func8, Try.ntmps8
    go_wp2_with fail
    refine (awake25 _).mono ?_
    rintro e w1 ⟨rfl, hm1⟩
    have HM1 := Lib.hid hm1
    clear hm1
    go_wp2_with fail
    refine (lv_new _ 40 ⟨by omega, by omega⟩ HM1.out).mono ?_
    rintro e w2 ⟨b, ms, mo, rfl, h2⟩
    have HL2 := Lib.hid h2
    clear h2
    rw [← HNE.out]
    go_wp2_with fail
    refine (mk_format HL2.out).mono ?_
    rintro e w3 ⟨rfl, h3, _⟩
    rw [HF1.out] at h3 ⊢
    have HL3 := Lib.hid h3
    clear h3 h40 d1 HNE
    go_wp2_with (with_reducible refine at_ (o := ⟨some 4, .alloc _, _, _, _, _⟩) ?_)
    refine un (wpList_alloc rfl 27 rfl (mCells zeroM) (run_zeroM _) ?_)
    intro w4 g4 hb4 hm4 hs4
    go_frame
    go_wp2_with (with_reducible refine at_ (o := ⟨none, .store _ _ _, _, _, _, _⟩) ?_)
    refine un (wpList_store rfl 27 _ _ rfl g4 rfl [.int .i64 1, .int .i64 1, .int .i64 1, .int .i64 0] rfl _ _ hb4 (mCells_size zeroM) (by rw [mst_size]; rfl) (mCells_one oneM) ?_)
    intro w5 hb5 hm5
    have HG4 := Lib.hid (show w.heap.size ≤ g4 ∧ ¬ dkOwn b ms mo g4 from ⟨by have := HL3.out.mod.size; omega, fun e => by have := HL3.out.at_.own_lt g4 e; omega⟩)
    have HL5 := Lib.hid (live_own (HL3.out.keep hm4) hm5 HG4.out.1 HG4.out.2)
    have HB5 := Lib.hid (show w5.heap[g4]? = some (.cells (mCells oneM) 27 (0, 0)) from hb5)
    clear hb4 hm4 hs4 hb5 hm5 HL2 HM1 HL3
    go_frame
    go_wp2_with fail
    go_loopw [5] (fun i wr => ∃ (j : Nat) (s : DS) (m : Mst), i = .int .i64 j ∧ j ≤ n0 ∧ Live w wr b ms mo s ∧ Good s m ∧ m.seq ≤ (j : Int) + 1 ∧ wr.heap[g4]? = some (.cells (mCells m) 27 (0, 0))) (fun i _ => n0 - (intOf i).toNat)
    case atStart => exact ⟨0, _, oneM, rfl, Nat.zero_le _, HL5.out, HG1.out, by show (1 : Int) ≤ _; omega, HB5.out⟩
    case round =>
      obtain ⟨j, s, m, rfl, hj, hl, hg, hsq, hb⟩ := hrel
      have HL := Lib.hid hl
      have HG := Lib.hid hg
      have HB := Lib.hid hb
      clear hl hg hb HL5 HB5 HG1 HF1
      by_cases hlt : j < n0
      · have hln := HN0.out
        have hjy : j < ys.length := by omega
        obtain ⟨g, o, c', he, hDg, hgl, hat, hok⟩ := (HX0.out.keep HL.out.mod (fun _ _ _ e => e)).at_ hjy
        simp only [Value.slice.injEq] at he
        obtain ⟨rfl, hne, rfl⟩ := he
        clear hne
        have HAT := Lib.hid hat
        have HOK := Lib.hid hok
        have HDG := Lib.hid (show g < w.heap.size from hDg)
        generalize ys[j] = x at *
        obtain ⟨fv, q6, hrf⟩ := HAT.out.c6
        obtain ⟨FA, FC, hfv⟩ := hrf.slice
        subst hfv
        have d2 : decide ((j : Int) < (n0 : Int)) = true := by simpa using hlt
        have e2 : (j : Int) < (n0 : Int) := by omega
        have HRF := Lib.hid hrf
        clear hat hok hDg hgl hrf hln
        by_cases hf : 1000 < x.fates.length
        · have d3 : decide ((1000 : Int) < (x.fates.length : Int)) = true := by simp; omega
          go_wp2_with fail
          go_returns
          exact ⟨rfl, HL.out.mod⟩
        · have d3 : decide ((1000 : Int) < (x.fates.length : Int)) = false := by simp; omega
          have q0 := HAT.out.c0
          have q1 := HAT.out.c1
          have q3 := HAT.out.c3
          have q4 := HAT.out.c4
          have q5 := HAT.out.c5
          obtain ⟨b0, b1, b2, b3⟩ := MstAt.of HB.out
          have hsq1 := Mst.may_seq HG.out.may
          have k1 := i64_mask x.m.turn 10 1023 (by omega) (by decide)
          have k2 := i64_mask x.m.oldest 16 65535 (by omega) (by decide)
          have k3 := i64_mask x.m.mark 16 65535 (by omega) (by decide)
          obtain ⟨a1, ha1⟩ : ∃ a, bits .and .i64 x.m.turn 1023 = a := ⟨_, rfl⟩
          obtain ⟨a2, ha2⟩ : ∃ a, bits .and .i64 x.m.oldest 65535 = a := ⟨_, rfl⟩
          obtain ⟨a3, ha3⟩ : ∃ a, bits .and .i64 x.m.mark 65535 = a := ⟨_, rfl⟩
          rw [ha1] at k1
          rw [ha2] at k2
          rw [ha3] at k3
          simp only [Int.reducePow] at k1 k2 k3
          have hjb : (j : Int) ≤ 40 := by have := HN0.out; omega
          have HY := Lib.hid (show (⟨m.seq + 1, 1 + a1, 1 + a2, a3⟩ : Mst).may = true by
            unfold Mst.may
            simp only [Bool.and_eq_true, decide_eq_true_eq]
            omega)
          go_wp2_with fail
          have hst : wr.cell? ⟨g4, 0, none⟩ = some (.int .i64 m.seq) ∧ wr.cell? ⟨g, o + j * 8 + 3, none⟩ = some (.int .i64 x.m.turn) ∧ wr.cell? ⟨g, o + j * 8 + 4, none⟩ = some (.int .i64 x.m.oldest) ∧ wr.cell? ⟨g, o + j * 8 + 5, none⟩ = some (.int .i64 x.m.mark) := ⟨b0, q3, q4, q5⟩
          have hload : ∀ W : World, Mod none_ wr W → W.cell? ⟨g4, 0, none⟩ = some (.int .i64 m.seq) ∧ W.cell? ⟨g, o + j * 8 + 3, none⟩ = some (.int .i64 x.m.turn) ∧ W.cell? ⟨g, o + j * 8 + 4, none⟩ = some (.int .i64 x.m.oldest) ∧ W.cell? ⟨g, o + j * 8 + 5, none⟩ = some (.int .i64 x.m.mark) :=
            fun W hW => ⟨hW.cell_eq b0 (fun e => e), hW.cell_eq q3 (fun e => e), hW.cell_eq q4 (fun e => e), hW.cell_eq q5 (fun e => e)⟩
          have hw1 : IntKind.i64.wrap (m.seq + 1) = m.seq + 1 := IntWalk.i64_in _ (by omega)
          have hw2 : IntKind.i64.wrap (1 + a1) = 1 + a1 := IntWalk.i64_in _ (by omega)
          have hw3 : IntKind.i64.wrap (1 + a2) = 1 + a2 := IntWalk.i64_in _ (by omega)
          go_region_held3 (fun W : World => W.cell? ⟨g4, 0, none⟩ = some (.int .i64 m.seq) ∧ W.cell? ⟨g, o + j * 8 + 3, none⟩ = some (.int .i64 x.m.turn) ∧ W.cell? ⟨g, o + j * 8 + 4, none⟩ = some (.int .i64 x.m.oldest) ∧ W.cell? ⟨g, o + j * 8 + 5, none⟩ = some (.int .i64 x.m.mark))
            (first | exact hst | exact hload _ (((Mod.refl _ _).alloc _).drew) | exact hload _ ((Mod.refl _ _).alloc _))
            (first | (fail))
          have hma : Mod none_ wr (wr.alloc (Obj.cells #[Value.int .i64 (m.seq + 1), Value.int .i64 (1 + a1), Value.int .i64 (1 + a2), Value.int .i64 a3] 27)).drew := ((Mod.refl none_ wr).alloc _).drew
          have hb6 : (wr.alloc (Obj.cells #[Value.int .i64 (m.seq + 1), Value.int .i64 (1 + a1), Value.int .i64 (1 + a2), Value.int .i64 a3] 27)).drew.heap[wr.heap.size]? = some (.cells (mCells ⟨m.seq + 1, 1 + a1, 1 + a2, a3⟩) 27 (0, 0)) := heap_alloc_new wr _
          generalize (wr.alloc (Obj.cells #[Value.int .i64 (m.seq + 1), Value.int .i64 (1 + a1), Value.int .i64 (1 + a2), Value.int .i64 a3] 27)).drew = w6 at *
          obtain ⟨y, hy⟩ : ∃ y : Mst, y = ⟨m.seq + 1, 1 + a1, 1 + a2, a3⟩ := ⟨_, rfl⟩
          have hys : y.seq = m.seq + 1 := by rw [hy]
          have HYM := Lib.hid (show y.may = true by rw [hy]; exact HY.out)
          rw [← hy] at hb6
          have HYS := Lib.hid hys
          obtain ⟨g6, hg6⟩ : ∃ g6, g6 = wr.heap.size := ⟨_, rfl⟩
          rw [← hg6] at hb6 ⊢
          have HG6 := Lib.hid (show w.heap.size ≤ g6 ∧ ¬ dkOwn b ms mo g6 ∧ g6 ≠ g4 from ⟨by have := HL.out.mod.size; omega, fun e => by have := HL.out.at_.own_lt g6 e; omega, fun e => by have := blk_lt HB.out; omega⟩)
          have HL6 := Lib.hid (HL.out.keep hma)
          have HB6 := Lib.hid (hma.get HB.out (fun e => e))
          have HC6 := Lib.hid hb6
          have HAT6 := Lib.hid (HAT.out.keep hma (fun _ _ _ e => e) HDG.out)
          have hk0 := Int.emod_nonneg x.n (show (4 : Int) ≠ 0 by omega)
          have hk4 := Int.emod_lt_of_pos x.n (show (0 : Int) < 4 by omega)
          clear hw1 hw2 hw3 hst hload hma hb6 hy hys hg6 HY k1 k2 k3 ha1 ha2 ha3 q0 q1 q3 q4 q5 q6 b0 b1 b2 b3 HL HB HAT d3
          have q1 := HAT6.out.c1
          go_wp2_with fail
          refine (pick_any x.n 4 _ ⟨by omega, by omega⟩).mono ?_
          rintro e w' ⟨rfl, rfl⟩
          generalize x.n % 4 = k at *
          have HK := Lib.hid (And.intro hk0 hk4)
          go_wp2_with fail
          refine (lv_arm HL6.out k _ rfl (by omega)).mono ?_
          rintro e w7 ⟨rfl, hl7, hm7⟩
          have HL7 := Lib.hid hl7
          have HB7 := Lib.hid (hm7.get HB6.out HG4.out.2)
          have HC7 := Lib.hid (hm7.get HC6.out HG6.out.2.1)
          have hOD : ∀ r, Old w r → r < w6.heap.size → ¬ dkOwn b ms mo r := fun r hr _ e => by have h1 := HL6.out.own; unfold Old at hr; rcases e with rfl | rfl | rfl <;> omega
          have HAT7 := Lib.hid (HAT6.out.keep hm7 hOD HDG.out)
          clear hl7 hm7 hk0 hk4 q1 hOD HL6 HB6 HC6 HAT6
          go_wp2_with (with_reducible refine at_ (o := ⟨some 71, _, _, _, _, _⟩) ?_)
          refine un (wpList_load rfl 27 _ rfl g6 0 rfl [.int .i64 y.seq, .int .i64 y.turn, .int .i64 y.oldest, .int .i64 y.mark] _ Try.underlying27 rfl (block_cells HC7.out) (by rw [mst_size]; rfl) ?_)
          go_frame
          go_wp2_with fail
          refine (show Calls Try.prog 13 #[.pointer (some ⟨b, 0, none⟩), mV y] _ _ from mk_write HL7.out y).mono ?_
          rintro e w8 ⟨rfl, hl8, hm8⟩
          have hE := (mw_armed HG.out HYM.out HK.out).1
          have hok1 := kept_ok HG.out HYM.out HYS.out HK.out
          have hok2 := kept_wake HG.out HYM.out HYS.out HK.out
          have HL8 := Lib.hid hl8
          have HB8 := Lib.hid (hm8.get HB7.out HG4.out.2)
          have HC8 := Lib.hid (hm8.get HC7.out HG6.out.2.1)
          have hOD : ∀ r, Old w r → r < w7.heap.size → ¬ dkOwn b ms mo r := fun r hr _ e => by have h1 := HL7.out.own; unfold Old at hr; rcases e with rfl | rfl | rfl <;> omega
          have HAT8 := Lib.hid (HAT7.out.keep hm8 hOD HDG.out)
          clear hl8 hm8 hOD HL7 HB7 HC7 HAT7
          generalize (mwT (armS s k) y).2 = s8 at *
          have hEE : (mwT (armS s k) y).1 = 0 ∨ (mwT (armS s k) y).1 = 8 := by
            rcases hE with h | h
            · exact .inl h.1
            · exact .inr h.1
          clear hE
          generalize (mwT (armS s k) y).1 = E at *
          have HO1 := Lib.hid hok1
          have HO2 := Lib.hid hok2
          clear hok1 hok2
          have q0 := HAT8.out.c0
          obtain ⟨fv8, q6, hrf8⟩ := HAT8.out.c6
          obtain ⟨FA8, FC8, hfv8⟩ := hrf8.slice
          subst hfv8
          have HRF8 := Lib.hid hrf8
          clear hrf8
          have HI := Lib.hid hEE
          rcases hEE with hE0 | hE8
          · subst hE0
            have hfa : ¬ 1000 < x.fates.length := hf
            by_cases hop : x.op.tmod 2 = 0
            · have dop : (x.op.tmod 2 == 0) = true := by simpa using hop
              go_wp2_with fail
              refine (lv_wake HL8.out HRF8.out (fun r hr _ e => by have h1 := HL8.out.own; unfold Old at hr; rcases e with rfl | rfl | rfl <;> omega) _ rfl (by omega)).mono ?_
              rintro e w9 ⟨rfl, hl9, hm9⟩
              have HL9 := Lib.hid hl9
              have HB9 := Lib.hid (hm9.get HB8.out HG4.out.2)
              have HC9 := Lib.hid (hm9.get HC8.out HG6.out.2.1)
              clear hl9 hm9 q0 q6 dop hop
              have HGD := Lib.hid ((HO2.out x.fates).resolve_right (fun h => by have := h.1; omega))
              obtain ⟨e0, e1, e2, e3⟩ := MstAt.of HC9.out
              obtain ⟨f0, f1, f2, f3⟩ := MstAt.of HB9.out
              go_wp2_with fail
              refine (mk_read HL9.out).mono ?_
              rintro e w10 ⟨rfl, hl10, hm10⟩
              rw [HGD.out.rd]
              have HL10 := Lib.hid hl10
              have HB10 := Lib.hid (hm10.get HB9.out (fun e => e))
              have HC10 := Lib.hid (hm10.get HC9.out (fun e => e))
              clear hl10 hm10 e0 e1 e2 e3 f0 f1 f2 f3
              go_wp2_with (with_reducible refine at_ (o := ⟨some 8, .alloc _, _, _, _, _⟩) ?_)
              refine un (wpList_alloc rfl 27 rfl (mCells zeroM) (run_zeroM _) ?_)
              intro w11 g8 hb11 hm11 hs11
              have HG8 := Lib.hid (show w.heap.size ≤ g8 ∧ ¬ dkOwn b ms mo g8 ∧ g4 ≠ g8 ∧ g6 ≠ g8 from ⟨by have := HL10.out.mod.size; omega, fun e => by have := HL10.out.at_.own_lt g8 e; omega, by have := blk_lt HB10.out; omega, by have := blk_lt HC10.out; omega⟩)
              have HL11 := Lib.hid (HL10.out.keep hm11)
              have HB11 := Lib.hid (hm11.get HB10.out (fun e => e))
              have HC11 := Lib.hid (hm11.get HC10.out (fun e => e))
              have HA11 := Lib.hid hb11
              clear hb11 hm11 hs11
              go_frame
              go_wp2_with (with_reducible refine at_ (o := ⟨none, .store _ _ _, _, _, _, _⟩) ?_)
              refine un (wpList_store rfl 27 _ _ rfl g8 rfl [.int .i64 y.seq, .int .i64 y.turn, .int .i64 y.oldest, .int .i64 y.mark] rfl _ _ HA11.out (mCells_size zeroM) (by rw [mst_size]; rfl) (mCells_one y) ?_)
              intro w12 hb12 hm12
              have HL12 := Lib.hid (live_own HL11.out hm12 HG8.out.1 HG8.out.2.1)
              have HB12 := Lib.hid (hm12.get HB11.out HG8.out.2.2.1)
              have HC12 := Lib.hid (hm12.get HC11.out HG8.out.2.2.2)
              have HA12 := Lib.hid (show w12.heap[g8]? = some (.cells (mCells y) 27 (0, 0)) from hb12)
              clear hb12 hm12 HL9 HB9 HC9 HL10 HB10 HC10 HL11 HB11 HC11 HA11
              obtain ⟨e0, e1, e2, e3⟩ := MstAt.of HC12.out
              obtain ⟨f0, f1, f2, f3⟩ := MstAt.of HB12.out
              obtain ⟨a0, a1, a2, a3⟩ := MstAt.of HA12.out
              go_frame
              go_wp2_with (with_reducible refine at_ (o := ⟨some 118, _, _, _, _, _⟩) ?_)
              refine un (wpList_load rfl 27 _ rfl g8 0 rfl [.int .i64 y.seq, .int .i64 y.turn, .int .i64 y.oldest, .int .i64 y.mark] _ Try.underlying27 rfl (block_cells HA12.out) (by rw [mst_size]; rfl) ?_)
              clear e0 e1 e2 e3 f0 f1 f2 f3 a0 a1 a2 a3
              go_frame
              go_wp2_with (with_reducible refine at_ (o := ⟨none, .store _ _ _, _, _, _, _⟩) ?_)
              refine un (wpList_store rfl 27 _ _ rfl g4 rfl [.int .i64 y.seq, .int .i64 y.turn, .int .i64 y.oldest, .int .i64 y.mark] rfl _ _ HB12.out (mCells_size m) (by rw [mst_size]; rfl) (mCells_one y) ?_)
              intro w13 hb13 hm13
              have HL13 := Lib.hid (live_own HL12.out hm13 HG4.out.1 HG4.out.2)
              have HB13 := Lib.hid (show w13.heap[g4]? = some (.cells (mCells y) 27 (0, 0)) from hb13)
              clear hb13 hm13
              go_frame
              go_wp2_with fail
              exact ⟨⟨j + 1, _, y, by go_num, by omega, HL13.out, HGD.out, by have := HYS.out; omega, HB13.out⟩, by simp [intOf]; omega⟩
            · have dop : (x.op.tmod 2 == 0) = false := by rw [beq_eq_false_iff_ne]; exact hop
              clear q6 hop
              have HL9 := HL8
              have HB9 := HB8
              have HC9 := HC8
              have HGD := Lib.hid (HO1.out rfl)
              clear HL8 HB8 HC8
              obtain ⟨e0, e1, e2, e3⟩ := MstAt.of HC9.out
              obtain ⟨f0, f1, f2, f3⟩ := MstAt.of HB9.out
              go_wp2_with fail
              refine (mk_read HL9.out).mono ?_
              rintro e w10 ⟨rfl, hl10, hm10⟩
              rw [HGD.out.rd]
              have HL10 := Lib.hid hl10
              have HB10 := Lib.hid (hm10.get HB9.out (fun e => e))
              have HC10 := Lib.hid (hm10.get HC9.out (fun e => e))
              clear hl10 hm10 e0 e1 e2 e3 f0 f1 f2 f3
              go_wp2_with (with_reducible refine at_ (o := ⟨some 8, .alloc _, _, _, _, _⟩) ?_)
              refine un (wpList_alloc rfl 27 rfl (mCells zeroM) (run_zeroM _) ?_)
              intro w11 g8 hb11 hm11 hs11
              have HG8 := Lib.hid (show w.heap.size ≤ g8 ∧ ¬ dkOwn b ms mo g8 ∧ g4 ≠ g8 ∧ g6 ≠ g8 from ⟨by have := HL10.out.mod.size; omega, fun e => by have := HL10.out.at_.own_lt g8 e; omega, by have := blk_lt HB10.out; omega, by have := blk_lt HC10.out; omega⟩)
              have HL11 := Lib.hid (HL10.out.keep hm11)
              have HB11 := Lib.hid (hm11.get HB10.out (fun e => e))
              have HC11 := Lib.hid (hm11.get HC10.out (fun e => e))
              have HA11 := Lib.hid hb11
              clear hb11 hm11 hs11
              go_frame
              go_wp2_with (with_reducible refine at_ (o := ⟨none, .store _ _ _, _, _, _, _⟩) ?_)
              refine un (wpList_store rfl 27 _ _ rfl g8 rfl [.int .i64 y.seq, .int .i64 y.turn, .int .i64 y.oldest, .int .i64 y.mark] rfl _ _ HA11.out (mCells_size zeroM) (by rw [mst_size]; rfl) (mCells_one y) ?_)
              intro w12 hb12 hm12
              have HL12 := Lib.hid (live_own HL11.out hm12 HG8.out.1 HG8.out.2.1)
              have HB12 := Lib.hid (hm12.get HB11.out HG8.out.2.2.1)
              have HC12 := Lib.hid (hm12.get HC11.out HG8.out.2.2.2)
              have HA12 := Lib.hid (show w12.heap[g8]? = some (.cells (mCells y) 27 (0, 0)) from hb12)
              clear hb12 hm12 HL9 HB9 HC9 HL10 HB10 HC10 HL11 HB11 HC11 HA11
              obtain ⟨e0, e1, e2, e3⟩ := MstAt.of HC12.out
              obtain ⟨f0, f1, f2, f3⟩ := MstAt.of HB12.out
              obtain ⟨a0, a1, a2, a3⟩ := MstAt.of HA12.out
              go_frame
              go_wp2_with (with_reducible refine at_ (o := ⟨some 118, _, _, _, _, _⟩) ?_)
              refine un (wpList_load rfl 27 _ rfl g8 0 rfl [.int .i64 y.seq, .int .i64 y.turn, .int .i64 y.oldest, .int .i64 y.mark] _ Try.underlying27 rfl (block_cells HA12.out) (by rw [mst_size]; rfl) ?_)
              clear e0 e1 e2 e3 f0 f1 f2 f3 a0 a1 a2 a3
              go_frame
              go_wp2_with (with_reducible refine at_ (o := ⟨none, .store _ _ _, _, _, _, _⟩) ?_)
              refine un (wpList_store rfl 27 _ _ rfl g4 rfl [.int .i64 y.seq, .int .i64 y.turn, .int .i64 y.oldest, .int .i64 y.mark] rfl _ _ HB12.out (mCells_size m) (by rw [mst_size]; rfl) (mCells_one y) ?_)
              intro w13 hb13 hm13
              have HL13 := Lib.hid (live_own HL12.out hm13 HG4.out.1 HG4.out.2)
              have HB13 := Lib.hid (show w13.heap[g4]? = some (.cells (mCells y) 27 (0, 0)) from hb13)
              clear hb13 hm13
              go_frame
              go_wp2_with fail
              exact ⟨⟨j + 1, _, y, by go_num, by omega, HL13.out, HGD.out, by have := HYS.out; omega, HB13.out⟩, by simp [intOf]; omega⟩
          · subst hE8
            have hfa : ¬ 1000 < x.fates.length := hf
            by_cases hop : x.op.tmod 2 = 0
            · have dop : (x.op.tmod 2 == 0) = true := by simpa using hop
              go_wp2_with fail
              refine (lv_wake HL8.out HRF8.out (fun r hr _ e => by have h1 := HL8.out.own; unfold Old at hr; rcases e with rfl | rfl | rfl <;> omega) _ rfl (by omega)).mono ?_
              rintro e w9 ⟨rfl, hl9, hm9⟩
              have HL9 := Lib.hid hl9
              have HB9 := Lib.hid (hm9.get HB8.out HG4.out.2)
              have HC9 := Lib.hid (hm9.get HC8.out HG6.out.2.1)
              clear hl9 hm9 q0 q6 dop hop
              rcases HO2.out x.fates with hgd | ⟨_, hgd⟩
              · have HGD := Lib.hid hgd
                clear hgd
                obtain ⟨e0, e1, e2, e3⟩ := MstAt.of HC9.out
                obtain ⟨f0, f1, f2, f3⟩ := MstAt.of HB9.out
                go_wp2_with fail
                refine (mk_read HL9.out).mono ?_
                rintro e w10 ⟨rfl, hl10, hm10⟩
                rw [HGD.out.rd]
                have HL10 := Lib.hid hl10
                have HB10 := Lib.hid (hm10.get HB9.out (fun e => e))
                have HC10 := Lib.hid (hm10.get HC9.out (fun e => e))
                clear hl10 hm10 e0 e1 e2 e3 f0 f1 f2 f3
                go_wp2_with (with_reducible refine at_ (o := ⟨some 8, .alloc _, _, _, _, _⟩) ?_)
                refine un (wpList_alloc rfl 27 rfl (mCells zeroM) (run_zeroM _) ?_)
                intro w11 g8 hb11 hm11 hs11
                have HG8 := Lib.hid (show w.heap.size ≤ g8 ∧ ¬ dkOwn b ms mo g8 ∧ g4 ≠ g8 ∧ g6 ≠ g8 from ⟨by have := HL10.out.mod.size; omega, fun e => by have := HL10.out.at_.own_lt g8 e; omega, by have := blk_lt HB10.out; omega, by have := blk_lt HC10.out; omega⟩)
                have HL11 := Lib.hid (HL10.out.keep hm11)
                have HB11 := Lib.hid (hm11.get HB10.out (fun e => e))
                have HC11 := Lib.hid (hm11.get HC10.out (fun e => e))
                have HA11 := Lib.hid hb11
                clear hb11 hm11 hs11
                go_frame
                go_wp2_with (with_reducible refine at_ (o := ⟨none, .store _ _ _, _, _, _, _⟩) ?_)
                refine un (wpList_store rfl 27 _ _ rfl g8 rfl [.int .i64 y.seq, .int .i64 y.turn, .int .i64 y.oldest, .int .i64 y.mark] rfl _ _ HA11.out (mCells_size zeroM) (by rw [mst_size]; rfl) (mCells_one y) ?_)
                intro w12 hb12 hm12
                have HL12 := Lib.hid (live_own HL11.out hm12 HG8.out.1 HG8.out.2.1)
                have HB12 := Lib.hid (hm12.get HB11.out HG8.out.2.2.1)
                have HC12 := Lib.hid (hm12.get HC11.out HG8.out.2.2.2)
                have HA12 := Lib.hid (show w12.heap[g8]? = some (.cells (mCells y) 27 (0, 0)) from hb12)
                clear hb12 hm12 HL9 HB9 HC9 HL10 HB10 HC10 HL11 HB11 HC11 HA11
                obtain ⟨e0, e1, e2, e3⟩ := MstAt.of HC12.out
                obtain ⟨f0, f1, f2, f3⟩ := MstAt.of HB12.out
                obtain ⟨a0, a1, a2, a3⟩ := MstAt.of HA12.out
                go_frame
                go_wp2_with (with_reducible refine at_ (o := ⟨some 118, _, _, _, _, _⟩) ?_)
                refine un (wpList_load rfl 27 _ rfl g8 0 rfl [.int .i64 y.seq, .int .i64 y.turn, .int .i64 y.oldest, .int .i64 y.mark] _ Try.underlying27 rfl (block_cells HA12.out) (by rw [mst_size]; rfl) ?_)
                clear e0 e1 e2 e3 f0 f1 f2 f3 a0 a1 a2 a3
                go_frame
                go_wp2_with (with_reducible refine at_ (o := ⟨none, .store _ _ _, _, _, _, _⟩) ?_)
                refine un (wpList_store rfl 27 _ _ rfl g4 rfl [.int .i64 y.seq, .int .i64 y.turn, .int .i64 y.oldest, .int .i64 y.mark] rfl _ _ HB12.out (mCells_size m) (by rw [mst_size]; rfl) (mCells_one y) ?_)
                intro w13 hb13 hm13
                have HL13 := Lib.hid (live_own HL12.out hm13 HG4.out.1 HG4.out.2)
                have HB13 := Lib.hid (show w13.heap[g4]? = some (.cells (mCells y) 27 (0, 0)) from hb13)
                clear hb13 hm13
                go_frame
                go_wp2_with fail
                exact ⟨⟨j + 1, _, y, by go_num, by omega, HL13.out, HGD.out, by have := HYS.out; omega, HB13.out⟩, by simp [intOf]; omega⟩
              · have HGD := Lib.hid hgd
                clear hgd
                have dne : (m.seq == y.seq) = false := by have := HYS.out; rw [beq_eq_false_iff_ne]; omega
                obtain ⟨e0, e1, e2, e3⟩ := MstAt.of HC9.out
                obtain ⟨f0, f1, f2, f3⟩ := MstAt.of HB9.out
                go_wp2_with fail
                refine (mk_read HL9.out).mono ?_
                rintro e w10 ⟨rfl, hl10, hm10⟩
                rw [HGD.out.rd]
                have HL10 := Lib.hid hl10
                have HB10 := Lib.hid (hm10.get HB9.out (fun e => e))
                have HC10 := Lib.hid (hm10.get HC9.out (fun e => e))
                clear hl10 hm10 e0 e1 e2 e3 f0 f1 f2 f3
                go_wp2_with (with_reducible refine at_ (o := ⟨some 8, .alloc _, _, _, _, _⟩) ?_)
                refine un (wpList_alloc rfl 27 rfl (mCells zeroM) (run_zeroM _) ?_)
                intro w11 g8 hb11 hm11 hs11
                have HG8 := Lib.hid (show w.heap.size ≤ g8 ∧ ¬ dkOwn b ms mo g8 ∧ g4 ≠ g8 ∧ g6 ≠ g8 from ⟨by have := HL10.out.mod.size; omega, fun e => by have := HL10.out.at_.own_lt g8 e; omega, by have := blk_lt HB10.out; omega, by have := blk_lt HC10.out; omega⟩)
                have HL11 := Lib.hid (HL10.out.keep hm11)
                have HB11 := Lib.hid (hm11.get HB10.out (fun e => e))
                have HC11 := Lib.hid (hm11.get HC10.out (fun e => e))
                have HA11 := Lib.hid hb11
                clear hb11 hm11 hs11
                go_frame
                go_wp2_with (with_reducible refine at_ (o := ⟨none, .store _ _ _, _, _, _, _⟩) ?_)
                refine un (wpList_store rfl 27 _ _ rfl g8 rfl [.int .i64 m.seq, .int .i64 m.turn, .int .i64 m.oldest, .int .i64 m.mark] rfl _ _ HA11.out (mCells_size zeroM) (by rw [mst_size]; rfl) (mCells_one m) ?_)
                intro w12 hb12 hm12
                have HL12 := Lib.hid (live_own HL11.out hm12 HG8.out.1 HG8.out.2.1)
                have HB12 := Lib.hid (hm12.get HB11.out HG8.out.2.2.1)
                have HC12 := Lib.hid (hm12.get HC11.out HG8.out.2.2.2)
                have HA12 := Lib.hid (show w12.heap[g8]? = some (.cells (mCells m) 27 (0, 0)) from hb12)
                clear hb12 hm12 HL9 HB9 HC9 HL10 HB10 HC10 HL11 HB11 HC11 HA11
                obtain ⟨e0, e1, e2, e3⟩ := MstAt.of HC12.out
                obtain ⟨f0, f1, f2, f3⟩ := MstAt.of HB12.out
                obtain ⟨a0, a1, a2, a3⟩ := MstAt.of HA12.out
                go_frame
                go_wp2_with (with_reducible refine at_ (o := ⟨some 118, _, _, _, _, _⟩) ?_)
                refine un (wpList_load rfl 27 _ rfl g8 0 rfl [.int .i64 m.seq, .int .i64 m.turn, .int .i64 m.oldest, .int .i64 m.mark] _ Try.underlying27 rfl (block_cells HA12.out) (by rw [mst_size]; rfl) ?_)
                clear e0 e1 e2 e3 f0 f1 f2 f3 a0 a1 a2 a3
                go_frame
                go_wp2_with (with_reducible refine at_ (o := ⟨none, .store _ _ _, _, _, _, _⟩) ?_)
                refine un (wpList_store rfl 27 _ _ rfl g4 rfl [.int .i64 m.seq, .int .i64 m.turn, .int .i64 m.oldest, .int .i64 m.mark] rfl _ _ HB12.out (mCells_size m) (by rw [mst_size]; rfl) (mCells_one m) ?_)
                intro w13 hb13 hm13
                have HL13 := Lib.hid (live_own HL12.out hm13 HG4.out.1 HG4.out.2)
                have HB13 := Lib.hid (show w13.heap[g4]? = some (.cells (mCells m) 27 (0, 0)) from hb13)
                clear hb13 hm13
                go_frame
                go_wp2_with fail
                exact ⟨⟨j + 1, _, m, by go_num, by omega, HL13.out, HGD.out, by have := HYS.out; omega, HB13.out⟩, by simp [intOf]; omega⟩
            · have dop : (x.op.tmod 2 == 0) = false := by rw [beq_eq_false_iff_ne]; exact hop
              go_wp2_with fail
              refine (lv_wake HL8.out HRF8.out (fun r hr _ e => by have h1 := HL8.out.own; unfold Old at hr; rcases e with rfl | rfl | rfl <;> omega) _ rfl (by omega)).mono ?_
              rintro e w9 ⟨rfl, hl9, hm9⟩
              have HL9 := Lib.hid hl9
              have HB9 := Lib.hid (hm9.get HB8.out HG4.out.2)
              have HC9 := Lib.hid (hm9.get HC8.out HG6.out.2.1)
              clear hl9 hm9 q0 q6 dop hop
              rcases HO2.out x.fates with hgd | ⟨_, hgd⟩
              · have HGD := Lib.hid hgd
                clear hgd
                obtain ⟨e0, e1, e2, e3⟩ := MstAt.of HC9.out
                obtain ⟨f0, f1, f2, f3⟩ := MstAt.of HB9.out
                go_wp2_with fail
                refine (mk_read HL9.out).mono ?_
                rintro e w10 ⟨rfl, hl10, hm10⟩
                rw [HGD.out.rd]
                have HL10 := Lib.hid hl10
                have HB10 := Lib.hid (hm10.get HB9.out (fun e => e))
                have HC10 := Lib.hid (hm10.get HC9.out (fun e => e))
                clear hl10 hm10 e0 e1 e2 e3 f0 f1 f2 f3
                go_wp2_with (with_reducible refine at_ (o := ⟨some 8, .alloc _, _, _, _, _⟩) ?_)
                refine un (wpList_alloc rfl 27 rfl (mCells zeroM) (run_zeroM _) ?_)
                intro w11 g8 hb11 hm11 hs11
                have HG8 := Lib.hid (show w.heap.size ≤ g8 ∧ ¬ dkOwn b ms mo g8 ∧ g4 ≠ g8 ∧ g6 ≠ g8 from ⟨by have := HL10.out.mod.size; omega, fun e => by have := HL10.out.at_.own_lt g8 e; omega, by have := blk_lt HB10.out; omega, by have := blk_lt HC10.out; omega⟩)
                have HL11 := Lib.hid (HL10.out.keep hm11)
                have HB11 := Lib.hid (hm11.get HB10.out (fun e => e))
                have HC11 := Lib.hid (hm11.get HC10.out (fun e => e))
                have HA11 := Lib.hid hb11
                clear hb11 hm11 hs11
                go_frame
                go_wp2_with (with_reducible refine at_ (o := ⟨none, .store _ _ _, _, _, _, _⟩) ?_)
                refine un (wpList_store rfl 27 _ _ rfl g8 rfl [.int .i64 y.seq, .int .i64 y.turn, .int .i64 y.oldest, .int .i64 y.mark] rfl _ _ HA11.out (mCells_size zeroM) (by rw [mst_size]; rfl) (mCells_one y) ?_)
                intro w12 hb12 hm12
                have HL12 := Lib.hid (live_own HL11.out hm12 HG8.out.1 HG8.out.2.1)
                have HB12 := Lib.hid (hm12.get HB11.out HG8.out.2.2.1)
                have HC12 := Lib.hid (hm12.get HC11.out HG8.out.2.2.2)
                have HA12 := Lib.hid (show w12.heap[g8]? = some (.cells (mCells y) 27 (0, 0)) from hb12)
                clear hb12 hm12 HL9 HB9 HC9 HL10 HB10 HC10 HL11 HB11 HC11 HA11
                obtain ⟨e0, e1, e2, e3⟩ := MstAt.of HC12.out
                obtain ⟨f0, f1, f2, f3⟩ := MstAt.of HB12.out
                obtain ⟨a0, a1, a2, a3⟩ := MstAt.of HA12.out
                go_frame
                go_wp2_with (with_reducible refine at_ (o := ⟨some 118, _, _, _, _, _⟩) ?_)
                refine un (wpList_load rfl 27 _ rfl g8 0 rfl [.int .i64 y.seq, .int .i64 y.turn, .int .i64 y.oldest, .int .i64 y.mark] _ Try.underlying27 rfl (block_cells HA12.out) (by rw [mst_size]; rfl) ?_)
                clear e0 e1 e2 e3 f0 f1 f2 f3 a0 a1 a2 a3
                go_frame
                go_wp2_with (with_reducible refine at_ (o := ⟨none, .store _ _ _, _, _, _, _⟩) ?_)
                refine un (wpList_store rfl 27 _ _ rfl g4 rfl [.int .i64 y.seq, .int .i64 y.turn, .int .i64 y.oldest, .int .i64 y.mark] rfl _ _ HB12.out (mCells_size m) (by rw [mst_size]; rfl) (mCells_one y) ?_)
                intro w13 hb13 hm13
                have HL13 := Lib.hid (live_own HL12.out hm13 HG4.out.1 HG4.out.2)
                have HB13 := Lib.hid (show w13.heap[g4]? = some (.cells (mCells y) 27 (0, 0)) from hb13)
                clear hb13 hm13
                go_frame
                go_wp2_with fail
                exact ⟨⟨j + 1, _, y, by go_num, by omega, HL13.out, HGD.out, by have := HYS.out; omega, HB13.out⟩, by simp [intOf]; omega⟩
              · have HGD := Lib.hid hgd
                clear hgd
                have dne : (m.seq == y.seq) = false := by have := HYS.out; rw [beq_eq_false_iff_ne]; omega
                obtain ⟨e0, e1, e2, e3⟩ := MstAt.of HC9.out
                obtain ⟨f0, f1, f2, f3⟩ := MstAt.of HB9.out
                go_wp2_with fail
                refine (mk_read HL9.out).mono ?_
                rintro e w10 ⟨rfl, hl10, hm10⟩
                rw [HGD.out.rd]
                have HL10 := Lib.hid hl10
                have HB10 := Lib.hid (hm10.get HB9.out (fun e => e))
                have HC10 := Lib.hid (hm10.get HC9.out (fun e => e))
                clear hl10 hm10 e0 e1 e2 e3 f0 f1 f2 f3
                go_wp2_with (with_reducible refine at_ (o := ⟨some 8, .alloc _, _, _, _, _⟩) ?_)
                refine un (wpList_alloc rfl 27 rfl (mCells zeroM) (run_zeroM _) ?_)
                intro w11 g8 hb11 hm11 hs11
                have HG8 := Lib.hid (show w.heap.size ≤ g8 ∧ ¬ dkOwn b ms mo g8 ∧ g4 ≠ g8 ∧ g6 ≠ g8 from ⟨by have := HL10.out.mod.size; omega, fun e => by have := HL10.out.at_.own_lt g8 e; omega, by have := blk_lt HB10.out; omega, by have := blk_lt HC10.out; omega⟩)
                have HL11 := Lib.hid (HL10.out.keep hm11)
                have HB11 := Lib.hid (hm11.get HB10.out (fun e => e))
                have HC11 := Lib.hid (hm11.get HC10.out (fun e => e))
                have HA11 := Lib.hid hb11
                clear hb11 hm11 hs11
                go_frame
                go_wp2_with (with_reducible refine at_ (o := ⟨none, .store _ _ _, _, _, _, _⟩) ?_)
                refine un (wpList_store rfl 27 _ _ rfl g8 rfl [.int .i64 m.seq, .int .i64 m.turn, .int .i64 m.oldest, .int .i64 m.mark] rfl _ _ HA11.out (mCells_size zeroM) (by rw [mst_size]; rfl) (mCells_one m) ?_)
                intro w12 hb12 hm12
                have HL12 := Lib.hid (live_own HL11.out hm12 HG8.out.1 HG8.out.2.1)
                have HB12 := Lib.hid (hm12.get HB11.out HG8.out.2.2.1)
                have HC12 := Lib.hid (hm12.get HC11.out HG8.out.2.2.2)
                have HA12 := Lib.hid (show w12.heap[g8]? = some (.cells (mCells m) 27 (0, 0)) from hb12)
                clear hb12 hm12 HL9 HB9 HC9 HL10 HB10 HC10 HL11 HB11 HC11 HA11
                obtain ⟨e0, e1, e2, e3⟩ := MstAt.of HC12.out
                obtain ⟨f0, f1, f2, f3⟩ := MstAt.of HB12.out
                obtain ⟨a0, a1, a2, a3⟩ := MstAt.of HA12.out
                go_frame
                go_wp2_with (with_reducible refine at_ (o := ⟨some 118, _, _, _, _, _⟩) ?_)
                refine un (wpList_load rfl 27 _ rfl g8 0 rfl [.int .i64 m.seq, .int .i64 m.turn, .int .i64 m.oldest, .int .i64 m.mark] _ Try.underlying27 rfl (block_cells HA12.out) (by rw [mst_size]; rfl) ?_)
                clear e0 e1 e2 e3 f0 f1 f2 f3 a0 a1 a2 a3
                go_frame
                go_wp2_with (with_reducible refine at_ (o := ⟨none, .store _ _ _, _, _, _, _⟩) ?_)
                refine un (wpList_store rfl 27 _ _ rfl g4 rfl [.int .i64 m.seq, .int .i64 m.turn, .int .i64 m.oldest, .int .i64 m.mark] rfl _ _ HB12.out (mCells_size m) (by rw [mst_size]; rfl) (mCells_one m) ?_)
                intro w13 hb13 hm13
                have HL13 := Lib.hid (live_own HL12.out hm13 HG4.out.1 HG4.out.2)
                have HB13 := Lib.hid (show w13.heap[g4]? = some (.cells (mCells m) 27 (0, 0)) from hb13)
                clear hb13 hm13
                go_frame
                go_wp2_with fail
                exact ⟨⟨j + 1, _, m, by go_num, by omega, HL13.out, HGD.out, by have := HYS.out; omega, HB13.out⟩, by simp [intOf]; omega⟩
      · have d2 : decide ((j : Int) < (n0 : Int)) = false := by simpa using hlt
        go_wp2_with fail
        go_returns
        exact ⟨rfl, HL.out.mod⟩

end Go.Proofs.Ythkbnhoebijdoaa
