/-
  The document's masters: Read, Write, Format.
-/
import Derived.Test.YthkbnhoebijdoaaRefM
namespace Go.Proofs.Ythkbnhoebijdoaa
open Go Go.RowKit Go.SM

section
variable {w w1 : World} {B r : Nat} {X S : Nat → Prop} {s : DS}
/-- a write of bytes that are new -/
theorem rf_write_new (h : RefIs w B X r s) (hm : Mod S w w1) (hS : ∀ k, S k → X k) (n : Int) {D : Nat → Prop} {v : Value} {l : List UInt8} (hx : Rd w1 D 1 v l.length (u8s l)) (hD : ∀ k, D k → k < w1.heap.size → w.heap.size ≤ k ∨ ¬ RM B X k) :
    Calls Try.prog 47 #[.pointer (some ⟨r, 0, none⟩), .int .i64 n, v] w1 fun e w' => e = .returned (.int .i64 (writeT s n l).1) ∧ RefIs w' B X r (writeT s n l).2 ∧ Mod (RM B X) w1 w' ∧
      Mod (fun k => RM B X k ∧ ¬ (w.heap.size ≤ k ∧ k < w1.heap.size)) w1 w' := by
  have hg := h.guard hm hS
  have hxb : ∀ k, X k → k < w1.heap.size := by obtain ⟨lv, L, h0⟩ := h.keep hm hS; exact h0.xb
  refine (rf_write hg n hx (fun k hk hl e => ?_)).mono fun e w' ⟨he, hr, hm'⟩ => ⟨he, hr.mono (fun k _ e => .inl e) (fun k e => Nat.lt_of_lt_of_le (hxb k e) hm'.size), hm'.mono (fun k _ e => ⟨e.1, fun e2 => e.2 (.inl e2)⟩), hm'.mono (fun k _ e => ⟨⟨e.1, fun e2 => e.2 (.inl e2)⟩, fun e2 => e.2 (.inr e2)⟩)⟩
  rcases hD k hk hl with h1 | h1
  · exact e.2 (.inr ⟨h1, hl⟩)
  · exact h1 ⟨e.1, fun e2 => e.2 (.inl e2)⟩
end

set_option maxHeartbeats 4000000 in
set_option maxRecDepth 100000 in
theorem rm_write {w : World} {B r : Nat} {X : Nat → Prop} {s : DS} (h : RefIs w B X r s) (hB : B ≤ w.heap.size) (m : Mst) :
    Calls Try.prog 38 #[.pointer (some ⟨r, 0, none⟩), mV m] w fun e w' => e = .returned (.int .i64 (mwT s m).1) ∧ RefIs w' B X r (mwT s m).2 ∧ Mod (RM B X) w w' := by
  unfold mV mCells
  have HR := Lib.hid h
  have HBw := Lib.hid hB
  have HN1 := Lib.hid (show 1 ≤ s.n ∧ s.n ≤ 8192 by obtain ⟨lv, L, h0⟩ := h; exact h0.n1)
  have HXB := Lib.hid (show ∀ k, X k → k < w.heap.size by obtain ⟨lv, L, h0⟩ := h; exact h0.xb)
  clear h hB
  by_cases hn : s.n < 40
  · have HB := Lib.hid (show mwT s m = (2, s) by unfold mwT; rw [if_pos hn])
    have d1 : decide (s.n < 40) = true := by simpa using hn
    go_enter Try.func38, Try.ntmps38
    go_wp2_with (with_reducible refine at_ (o := ⟨some 3, .box _ _, _, _, _, _⟩) ?_)
    refine un (wpList_box rfl 64 _ rfl _ rfl ?_)
    intro w1 g hb1 hm1 hs1
    have HR1 := Lib.hid (HR.out.keep hm1 (fun _ e => e.elim))
    have HM1 := Lib.hid hm1
    clear hb1 hm1 hs1
    go_frame
    go_wp2_with ((with_reducible refine (rf_sectors HR1.out).mono ?_); rintro e w' ⟨rfl, rfl⟩)
    go_returns
    rw [HB.out]
    exact ⟨rfl, HR1.out, HM1.out.mono fun _ _ e => e.elim⟩
  · have d1 : decide (s.n < 40) = false := by simpa using hn
    cases hmay : m.may with
    | false =>
      have HB := Lib.hid (show mwT s m = (2, s) by unfold mwT; rw [if_neg hn, if_pos hmay])
      have HMY := Lib.hid hmay
      clear hmay
      go_enter Try.func38, Try.ntmps38
      go_wp2_with (with_reducible refine at_ (o := ⟨some 3, .box _ _, _, _, _, _⟩) ?_)
      refine un (wpList_box rfl 64 _ rfl _ rfl ?_)
      intro w1 g hb1 hm1 hs1
      have HR1 := Lib.hid (HR.out.keep hm1 (fun _ e => e.elim))
      have HM1 := Lib.hid hm1
      obtain ⟨c0, c1, c2, c3⟩ := MstAt.of (m := m) hb1
      clear hb1 hm1 hs1
      go_frame
      go_wp2_with fail
      refine (rf_sectors HR1.out).mono ?_
      rintro e w' ⟨rfl, rfl⟩
      go_wp2_with fail
      refine (show Calls Try.prog 49 #[.agg #[.int .i64 m.seq, .int .i64 m.turn, .int .i64 m.oldest, .int .i64 m.mark]] _ _ from may_ref m _).mono ?_
      rintro e w2 ⟨rfl, hm2⟩
      rw [HMY.out]
      have HR2 := Lib.hid (HR1.out.keep hm2 (fun _ e => e.elim))
      have HM2 := Lib.hid (HM1.out.trans' hm2)
      clear hm2
      go_wp2_with fail
      go_returns
      rw [HB.out]
      exact ⟨rfl, HR2.out, HM2.out.mono fun _ _ e => e.elim⟩
    | true =>
      have HMY := Lib.hid hmay
      have HB := Lib.hid (show mwT s m = if (writeT s (m.seq % 2) (secM m)).1 ≠ 0 then writeT s (m.seq % 2) (secM m) else syncT (writeT s (m.seq % 2) (secM m)).2 by unfold mwT; rw [if_neg hn, if_neg (by rw [hmay]; simp)])
      have hsq := Mst.may_seq hmay
      have htm : m.seq.tmod 2 = m.seq % 2 := Int.tmod_eq_emod_of_nonneg (by omega)
      clear hmay
      go_enter Try.func38, Try.ntmps38
      go_wp2_with (with_reducible refine at_ (o := ⟨some 3, .box _ _, _, _, _, _⟩) ?_)
      refine un (wpList_box rfl 64 _ rfl _ rfl ?_)
      intro w1 g hb1 hm1 hs1
      have HR1 := Lib.hid (HR.out.keep hm1 (fun _ e => e.elim))
      have HM1 := Lib.hid hm1
      obtain ⟨c0, c1, c2, c3⟩ := MstAt.of (m := m) hb1
      have HC1 := Lib.hid hb1
      clear hb1 hm1
      go_frame
      go_wp2_with fail
      refine (rf_sectors HR1.out).mono ?_
      rintro e w' ⟨rfl, rfl⟩
      go_wp2_with fail
      refine (show Calls Try.prog 49 #[.agg #[.int .i64 m.seq, .int .i64 m.turn, .int .i64 m.oldest, .int .i64 m.mark]] _ _ from may_ref m _).mono ?_
      rintro e w2 ⟨rfl, hm2⟩
      rw [HMY.out]
      have HR2 := Lib.hid (HR1.out.keep hm2 (fun _ e => e.elim))
      have HM2 := Lib.hid (HM1.out.trans' hm2)
      have hc2 : w2.heap[g]? = some (.cells (mCells m) 64 (0, 0)) := hm2.get HC1.out (fun e => e)
      clear hm2 c0 c1 c2 c3
      go_wp2_with fail
      have hload : ∀ W : World, W.heap[g]? = some (.cells (mCells m) 64 (0, 0)) → W.cell? ⟨g, 0, none⟩ = some (.int .i64 m.seq) ∧ W.cell? ⟨g, 1, none⟩ = some (.int .i64 m.turn) ∧ W.cell? ⟨g, 2, none⟩ = some (.int .i64 m.oldest) ∧ W.cell? ⟨g, 3, none⟩ = some (.int .i64 m.mark) :=
        fun W hW => MstAt.of hW
      have h2 := hload _ hc2
      have HLO := Lib.hid hload
      have HGX := Lib.hid (show ∀ w3 : World, Mod none_ w2 w3 → ¬ (RM B X g ∧ ¬ (w.heap.size ≤ g ∧ g < w3.heap.size)) from fun w3 hm3 e => e.2 ⟨hs1, Nat.lt_of_lt_of_le (blk_lt hc2) hm3.size⟩)
      clear hload
      go_region_held3 (fun W : World => W.cell? ⟨g, 0, none⟩ = some (.int .i64 m.seq) ∧ W.cell? ⟨g, 1, none⟩ = some (.int .i64 m.turn) ∧ W.cell? ⟨g, 2, none⟩ = some (.int .i64 m.oldest) ∧ W.cell? ⟨g, 3, none⟩ = some (.int .i64 m.mark))
        (first | exact h2 | exact hS3 | exact hS4)
        (first | (go_at_call 27; refine (show Calls Try.prog 27 #[.agg #[.int .i64 m.seq, .int .i64 m.turn, .int .i64 m.oldest, .int .i64 m.mark]] _ _ from rbytes_any m _).mono ?_; rintro e w3 ⟨v3, rfl, ho3, hm3⟩; have hS3 := HLO.out _ (hm3.of_drew.get hc2 (fun e => e)))
               | (go_at_call 47; refine (rf_write_new HR.out (HM2.out.trans' hm3.of_drew) (fun _ e => e.elim) _ (l := secM m) (by rw [secM_length]; exact ho3.rd) (fun k hk _ => .inl (Nat.le_trans HM2.out.size hk))).mono ?_; rintro e w4 ⟨rfl, hr4, hm4, hm4'⟩; have hS4 := HLO.out _ (hm4'.get (hm3.of_drew.get hc2 (fun e => e)) (HGX.out _ hm3.of_drew))))
      have HR4 := Lib.hid hr4
      have HM4 := Lib.hid (((HM2.out.trans' hm3.of_drew).mono (S' := RM B X) fun _ _ e => e.elim).trans' hm4)
      clear hr4 hm4 hm4' hm3 ho3 hS3 hS4 hc2 h2
      by_cases hz : (writeT s (m.seq % 2) (secM m)).1 = 0
      · have HZ := Lib.hid (HB.out.trans (if_neg (by simpa using hz)))
        rw [hz]
        clear hz
        go_wp2_with fail
        refine (rf_sync HR4.out).mono ?_
        rintro e w5 ⟨rfl, hr5, hm5⟩
        have HR5 := Lib.hid hr5
        have HM5 := Lib.hid (HM4.out.trans' hm5)
        clear hr5 hm5
        go_wp2_with fail
        go_returns
        rw [HZ.out]
        exact ⟨rfl, HR5.out, HM5.out⟩
      · have HZ := Lib.hid (HB.out.trans (if_pos hz))
        have dz : ((writeT s (m.seq % 2) (secM m)).1 != 0) = true := by simpa using hz
        clear hz
        go_wp2_with fail
        go_returns
        rw [HZ.out]
        exact ⟨rfl, HR4.out, HM4.out⟩


theorem readT_up {s : DS} {n : Int} (h : mayE s n = 0) : readT s n = (0, latS s n) := by unfold readT; rw [if_neg (by omega)]
theorem readT_no {s : DS} {n : Int} (h : mayE s n ≠ 0) : readT s n = (mayE s n, []) := by unfold readT; rw [if_pos h]

/-- a reader's own blocks: the answer, the best so far -/
def RqAt (w : World) (g2 g4 : Nat) (m : Mst) : Prop := w.heap[g2]? = some (.cells (mCells zeroM) 64 (0, 0)) ∧ w.heap[g4]? = some (.cells (mCells m) 64 (0, 0)) ∧ g2 ≠ g4
theorem RqAt.keep {w w' : World} {S : Nat → Prop} {g2 g4 : Nat} {m : Mst} (h : RqAt w g2 g4 m) (hm : Mod S w w') (h2 : ¬ S g2) (h4 : ¬ S g4) : RqAt w' g2 g4 m := ⟨hm.get h.1 h2, hm.get h.2.1 h4, h.2.2⟩

set_option maxHeartbeats 8000000 in
set_option maxRecDepth 100000 in
theorem rm_read {w : World} {B r : Nat} {X : Nat → Prop} {s : DS} (h : RefIs w B X r s) (hlen : ∀ k, (latS s k).length = 512) :
    Calls Try.prog 39 #[.pointer (some ⟨r, 0, none⟩)] w fun e w' => e = .returned (.tuple #[mV (rdMT s).2, .int .i64 (rdMT s).1]) ∧ RefIs w' B X r s ∧ Mod none_ w w' := by
  have HR := Lib.hid h
  have HLen := Lib.hid hlen
  clear h hlen
  by_cases hn : s.n < 40
  · have HB := Lib.hid (show rdMT s = (2, zeroM) by unfold rdMT; rw [if_pos hn])
    have d1 : decide (s.n < 40) = true := by simpa using hn
    go_enter Try.func39, Try.ntmps39
    go_wp2_with (with_reducible refine at_ (o := ⟨some 2, _, _, _, _, _⟩) ?_)
    refine un (wpList_alloc rfl 64 rfl (mCells zeroM) (run_zeroR _) ?_)
    intro w1 g hb1 hm1 hs1
    have HR1 := Lib.hid (HR.out.keep hm1 (fun _ e => e.elim))
    have HM1 := Lib.hid hm1
    have HC1 := Lib.hid hb1
    clear hb1 hm1
    go_frame
    go_wp2_with fail
    refine (rf_sectors HR1.out).mono ?_
    rintro e w' ⟨rfl, rfl⟩
    go_wp2_with (with_reducible refine at_ (o := ⟨some 13, _, _, _, _, _⟩) ?_)
    refine un (wpList_val (s := Instr.build 64 #[]) rfl (by simp [execOp]) (run_buildR _) ?_)
    go_frame
    go_wp2_with (with_reducible refine at_ (o := ⟨none, .store _ _ _, _, _, _, _⟩) ?_)
    refine un (wpList_store rfl 64 _ _ rfl g rfl [.int .i64 0, .int .i64 0, .int .i64 0, .int .i64 0] rfl _ _ HC1.out rfl (by rw [rmst_size]; rfl) (mCells_one zeroM) ?_)
    intro w2 hb2 hm2
    have HB2 := Lib.hid hb2
    have HM2 := Lib.hid (show Mod none_ w w2 from HM1.out.trans hm2 (fun r e hr => by omega))
    clear hb2 hm2
    go_frame
    go_wp2_with fail
    (try simp only [Exit.inBlock, Exit.then])
    refine bodyPost_ret (results_ct rfl _ _ g _ _ _ rfl HB2.out Try.underlying64 rfl (by rw [rmst_size]; rfl)) rfl ?_
    rw [HB.out]
    exact ⟨rfl, HR.out.keep HM2.out (fun _ e => e.elim), HM2.out⟩
  · have d1 : decide (s.n < 40) = false := by simpa using hn
    have hn40 : 40 ≤ s.n := by omega
    have HN := Lib.hid hn40
    go_enter Try.func39, Try.ntmps39
    go_wp2_with (with_reducible refine at_ (o := ⟨some 2, _, _, _, _, _⟩) ?_)
    refine un (wpList_alloc rfl 64 rfl (mCells zeroM) (run_zeroR _) ?_)
    intro w1 g2 hb1 hm1 hs1
    have HR1 := Lib.hid (HR.out.keep hm1 (fun _ e => e.elim))
    have HM1 := Lib.hid hm1
    have HC1 := Lib.hid hb1
    clear hb1 hm1
    go_frame
    go_wp2_with fail
    refine (rf_sectors HR1.out).mono ?_
    rintro e w' ⟨rfl, rfl⟩
    go_wp2_with (with_reducible refine at_ (o := ⟨some 14, _, _, _, _, _⟩) ?_)
    refine un (wpList_val (s := Instr.build 64 #[]) rfl (by simp [execOp]) (run_buildR _) ?_)
    go_frame
    go_wp2_with (with_reducible refine at_ (o := ⟨some 4, .alloc _, _, _, _, _⟩) ?_)
    refine un (wpList_alloc rfl 64 rfl (mCells zeroM) (run_zeroR _) ?_)
    intro w2 g4 hb2 hm2 hs2
    go_frame
    go_wp2_with (with_reducible refine at_ (o := ⟨none, .store _ _ _, _, _, _, _⟩) ?_)
    refine un (wpList_store rfl 64 _ _ rfl g4 rfl [.int .i64 0, .int .i64 0, .int .i64 0, .int .i64 0] rfl _ _ hb2 rfl (by rw [rmst_size]; rfl) (mCells_one zeroM) ?_)
    intro w3 hb3 hm3
    have hm23 : Mod none_ w1 w3 := hm2.trans hm3 (fun r e hr => by omega)
    have HG := Lib.hid (show w.heap.size ≤ g2 ∧ w.heap.size ≤ g4 from by
      have h1 := HM1.out.size
      exact ⟨by omega, by omega⟩)
    have HQ3 := Lib.hid (show RqAt w3 g2 g4 zeroM from ⟨hm23.get HC1.out (fun e => e), hb3, fun e => by have h1 := blk_lt HC1.out; omega⟩)
    have HM3 := Lib.hid (HM1.out.trans' hm23)
    clear hb2 hm2 hb3 hm3 hm23 hs1 hs2 HM1 HC1
    go_frame
    go_wp2_with fail
    go_loopw [5] (fun i wr => ∃ k : Nat, i = .int .i64 k ∧ k ≤ 2 ∧ (0 < k → mayE s 0 = 0) ∧ RqAt wr g2 g4 (bestS s k) ∧ Mod none_ w wr) (fun i _ => 2 - (intOf i).toNat)
    case atStart => exact ⟨0, rfl, Nat.zero_le _, fun h => absurd h (by omega), HQ3.out, HM3.out⟩
    case round =>
      obtain ⟨i, rfl, hi, hup, hq, hm⟩ := hrel
      have HQ := Lib.hid hq
      have HM := Lib.hid hm
      have HUP := Lib.hid hup
      clear hq hm hup HQ3 HM3
      have HRw := Lib.hid (HR.out.keep HM.out (fun _ e => e.elim))
      by_cases hi2 : i < 2
      · have d2 : decide ((i : Int) < 2) = true := by simp; omega
        by_cases hup : mayE s 0 = 0
        · have HU := Lib.hid hup
          have HMAY := Lib.hid ((mayE_two HN.out i hi2).trans hup)
          clear hup
          go_wp2_with fail
          refine (rf_read HRw.out i).mono ?_
          rintro e w4 ⟨v4, rfl, ho4, hm4⟩
          rw [readT_up HMAY.out] at ho4 ⊢
          have hst := bestS_succ s i
          obtain ⟨B1, hB1⟩ : ∃ B1, bestS s (i + 1) = B1 := ⟨_, rfl⟩
          rw [hB1] at hst
          have hlb := HLen.out (i : Int)
          obtain ⟨bb, hbb⟩ : ∃ bb, latS s (i : Int) = bb := ⟨_, rfl⟩
          rw [hbb] at hst ho4 hlb ⊢
          rw [hlb] at ho4
          have hq4 := HQ.out.keep hm4 (fun e => e) (fun e => e)
          obtain ⟨B0, hB0⟩ : ∃ B0, bestS s i = B0 := ⟨_, rfl⟩
          rw [hB0] at hst hq4
          have HST := Lib.hid hst
          have HE1 := Lib.hid hB1
          have HQ4 := Lib.hid hq4
          have HM4 := Lib.hid (HM.out.trans' hm4)
          have HO4 := Lib.hid ho4.rd
          have HLB := Lib.hid hlb
          clear hst hB1 hbb hB0 hlb hq4 hm4 ho4 HQ HRw HM
          go_wp2_with fail
          refine (of_ref HO4.out HLB.out i).mono ?_
          rintro e w5 ⟨rfl, hm5⟩
          have HQ5 := Lib.hid (HQ4.out.keep hm5 (fun e => e) (fun e => e))
          have HM5 := Lib.hid (HM4.out.trans' hm5)
          clear hm5
          have hof : ofM bb i = if okM bb i then parseM bb else zeroM := by rw [ofM]
          obtain ⟨ok, hok⟩ : ∃ ok, okM bb i = ok := ⟨_, rfl⟩
          obtain ⟨OM, hOM⟩ : ∃ OM, ofM bb i = OM := ⟨_, rfl⟩
          have hst := HST.out
          obtain ⟨M, hM⟩ : ∃ M, parseM bb = M := ⟨_, rfl⟩
          rw [hok, hM] at hst
          rw [hok, hOM, hM] at hof
          rw [hok, hOM]
          have HST' := Lib.hid hst
          have HOF := Lib.hid hof
          clear hok hOM hM hst hof HST
          go_wp2_with (with_reducible refine at_ (o := ⟨some 8, .alloc _, _, _, _, _⟩) ?_)
          refine un (wpList_alloc rfl 64 rfl (mCells zeroM) (run_zeroR _) ?_)
          intro w6 g8 hb6 hm6 hs6
          go_frame
          go_wp2_with (with_reducible refine at_ (o := ⟨none, .store _ _ _, _, _, _, _⟩) ?_)
          refine un (wpList_store rfl 64 _ _ rfl g8 rfl [.int .i64 OM.seq, .int .i64 OM.turn, .int .i64 OM.oldest, .int .i64 OM.mark] rfl _ _ hb6 (mCells_size zeroM) (by rw [rmst_size]; rfl) (mCells_one OM) ?_)
          intro w7 hb7 hm7
          have hm67 : Mod none_ w5 w7 := hm6.trans hm7 (fun r e hr => by omega)
          have HQ7 := Lib.hid (HQ5.out.keep hm67 (fun e => e) (fun e => e))
          have HM7 := Lib.hid (HM5.out.trans' hm67)
          have HC7 := Lib.hid (show w7.heap[g8]? = some (.cells (mCells OM) 64 (0, 0)) from hb7)
          clear hb6 hm6 hm67 hb7 hm7 hs6 HQ5 HM5
          obtain ⟨e0, _, _, _⟩ := MstAt.of (m := OM) HC7.out
          obtain ⟨f0, _, _, _⟩ := MstAt.of (m := B0) HQ7.out.2.1
          go_frame
          cases ok with
          | false =>
            have HB1 := Lib.hid (show B1 = B0 by rw [HST'.out]; simp)
            go_wp2_with fail
            exact ⟨⟨i + 1, by go_num, by omega, fun _ => HU.out, by rw [HE1.out, HB1.out]; exact HQ7.out, HM7.out⟩, by simp [intOf]; omega⟩
          | true =>
            have HOM := Lib.hid (show OM = M by rw [HOF.out]; rfl)
            by_cases hgt : B0.seq < OM.seq
            · have HB1 := Lib.hid (show B1 = OM by rw [HST'.out, ← HOM.out, decide_eq_true hgt]; rfl)
              have dg : decide (B0.seq < OM.seq) = true := by simpa using hgt
              go_wp2_with (with_reducible refine at_ (o := ⟨some 43, _, _, _, _, _⟩) ?_)
              refine un (wpList_load rfl 64 _ rfl g8 0 rfl [.int .i64 OM.seq, .int .i64 OM.turn, .int .i64 OM.oldest, .int .i64 OM.mark] _ Try.underlying64 rfl (block_cells HC7.out) (by rw [rmst_size]; rfl) ?_)
              go_frame
              go_wp2_with (with_reducible refine at_ (o := ⟨none, .store _ _ _, _, _, _, _⟩) ?_)
              refine un (wpList_store rfl 64 _ _ rfl g4 rfl [.int .i64 OM.seq, .int .i64 OM.turn, .int .i64 OM.oldest, .int .i64 OM.mark] rfl _ _ HQ7.out.2.1 (mCells_size B0) (by rw [rmst_size]; rfl) (mCells_one OM) ?_)
              intro w8 hb8 hm8
              have HQ8 := Lib.hid (show RqAt w8 g2 g4 OM from ⟨hm8.get HQ7.out.1 HQ7.out.2.2, hb8, HQ7.out.2.2⟩)
              have HM8 := Lib.hid (show Mod none_ w w8 from HM7.out.trans hm8 (fun r e hr => by have := HG.out.2; omega))
              clear hb8 hm8
              go_frame
              go_wp2_with fail
              exact ⟨⟨i + 1, by go_num, by omega, fun _ => HU.out, by rw [HE1.out, HB1.out]; exact HQ8.out, HM8.out⟩, by simp [intOf]; omega⟩
            · have HB1 := Lib.hid (show B1 = B0 by rw [HST'.out, ← HOM.out, decide_eq_false hgt]; rfl)
              have dg : decide (B0.seq < OM.seq) = false := by simpa using hgt
              go_wp2_with fail
              exact ⟨⟨i + 1, by go_num, by omega, fun _ => HU.out, by rw [HE1.out, HB1.out]; exact HQ7.out, HM7.out⟩, by simp [intOf]; omega⟩
        · have HU := Lib.hid hup
          have HMAY := Lib.hid (mayE_two HN.out i hi2)
          have dz : (mayE s 0 != 0) = true := by simpa using hup
          have HB := Lib.hid (show rdMT s = (mayE s 0, zeroM) by unfold rdMT; rw [if_neg (by omega), if_pos hup])
          have HI0 := Lib.hid (show i = 0 from (Nat.eq_zero_or_pos i).elim id (fun h => absurd (HUP.out h) hup))
          clear hup
          go_wp2_with fail
          refine (rf_read HRw.out i).mono ?_
          rintro e w4 ⟨v4, rfl, _, hm4⟩
          rw [readT_no (by rw [HMAY.out]; exact HU.out), HMAY.out]
          have HQ4 := Lib.hid (HQ.out.keep hm4 (fun e => e) (fun e => e))
          have HM4 := Lib.hid (HM.out.trans' hm4)
          clear hm4
          go_wp2_with (with_reducible refine at_ (o := ⟨some 27, _, _, _, _, _⟩) ?_)
          refine un (wpList_val (s := Instr.build 64 #[]) rfl (by simp [execOp]) (run_buildR _) ?_)
          go_frame
          go_wp2_with (with_reducible refine at_ (o := ⟨none, .store _ _ _, _, _, _, _⟩) ?_)
          refine un (wpList_store rfl 64 _ _ rfl g2 rfl [.int .i64 0, .int .i64 0, .int .i64 0, .int .i64 0] rfl _ _ HQ4.out.1 (mCells_size zeroM) (by rw [rmst_size]; rfl) (mCells_one zeroM) ?_)
          intro w5 hb5 hm5
          have HB5 := Lib.hid hb5
          have HM5 := Lib.hid (show Mod none_ w w5 from HM4.out.trans hm5 (fun r e hr => by have h1 := HG.out.1; omega))
          clear hb5 hm5
          go_frame
          go_wp2_with fail
          (try simp only [Exit.inBlock, Exit.then])
          refine bodyPost_ret (results_ct rfl _ _ g2 _ _ _ rfl HB5.out Try.underlying64 rfl (by rw [rmst_size]; rfl)) rfl ?_
          rw [HB.out]
          exact ⟨rfl, HR.out.keep HM5.out (fun _ e => e.elim), HM5.out⟩
      · obtain rfl : i = 2 := by omega
        have HU := Lib.hid (HUP.out (by omega))
        obtain ⟨Bz, hB⟩ : ∃ Bz, bestS s 2 = Bz := ⟨_, rfl⟩
        have HRD := Lib.hid (rdMT_up HN.out HU.out Bz hB)
        have hr2 := HQ.out
        rw [hB] at hr2
        have HQB := Lib.hid hr2
        clear hr2 hB HQ
        by_cases hz : Bz.seq = 0
        · have dz : (Bz.seq == 0) = true := by simpa using hz
          have HB := Lib.hid (show rdMT s = (4, zeroM) by rw [HRD.out, if_pos hz])
          obtain ⟨c0, c1, c2, c3⟩ := MstAt.of HQB.out.2.1
          clear hz
          go_wp2_with (with_reducible refine at_ (o := ⟨some 47, _, _, _, _, _⟩) ?_)
          refine un (wpList_val (s := Instr.build 64 #[]) rfl (by simp [execOp]) (run_buildR _) ?_)
          go_frame
          go_wp2_with (with_reducible refine at_ (o := ⟨none, .store _ _ _, _, _, _, _⟩) ?_)
          refine un (wpList_store rfl 64 _ _ rfl g2 rfl [.int .i64 0, .int .i64 0, .int .i64 0, .int .i64 0] rfl _ _ HQB.out.1 (mCells_size zeroM) (by rw [rmst_size]; rfl) (mCells_one zeroM) ?_)
          intro w4 hb4 hm4
          have HB4 := Lib.hid hb4
          have HM4 := Lib.hid (show Mod none_ w w4 from HM.out.trans hm4 (fun r e hr => by have h1 := HG.out.1; omega))
          clear hb4 hm4
          go_frame
          go_wp2_with fail
          (try simp only [Exit.inBlock, Exit.then])
          refine bodyPost_ret (results_ct rfl _ _ g2 _ _ _ rfl HB4.out Try.underlying64 rfl (by rw [rmst_size]; rfl)) rfl ?_
          rw [HB.out]
          exact ⟨rfl, HR.out.keep HM4.out (fun _ e => e.elim), HM4.out⟩
        · have dz : (Bz.seq == 0) = false := by simpa using hz
          have HB := Lib.hid (show rdMT s = (0, Bz) by rw [HRD.out, if_neg hz])
          obtain ⟨c0, c1, c2, c3⟩ := MstAt.of HQB.out.2.1
          clear hz
          go_wp2_with (with_reducible refine at_ (o := ⟨some 48, _, _, _, _, _⟩) ?_)
          refine un (wpList_load rfl 64 _ rfl g4 0 rfl [.int .i64 Bz.seq, .int .i64 Bz.turn, .int .i64 Bz.oldest, .int .i64 Bz.mark] _ Try.underlying64 rfl (block_cells HQB.out.2.1) (by rw [rmst_size]; rfl) ?_)
          go_frame
          go_wp2_with (with_reducible refine at_ (o := ⟨none, .store _ _ _, _, _, _, _⟩) ?_)
          refine un (wpList_store rfl 64 _ _ rfl g2 rfl [.int .i64 Bz.seq, .int .i64 Bz.turn, .int .i64 Bz.oldest, .int .i64 Bz.mark] rfl _ _ HQB.out.1 (mCells_size zeroM) (by rw [rmst_size]; rfl) (mCells_one Bz) ?_)
          intro w4 hb4 hm4
          have HB4 := Lib.hid hb4
          have HM4 := Lib.hid (show Mod none_ w w4 from HM.out.trans hm4 (fun r e hr => by have h1 := HG.out.1; omega))
          clear hb4 hm4
          go_frame
          go_wp2_with fail
          (try simp only [Exit.inBlock, Exit.then])
          refine bodyPost_ret (results_ct rfl _ _ g2 _ _ _ rfl HB4.out Try.underlying64 rfl (by rw [rmst_size]; rfl)) rfl ?_
          rw [HB.out]
          exact ⟨rfl, HR.out.keep HM4.out (fun _ e => e.elim), HM4.out⟩

set_option maxHeartbeats 4000000 in
set_option maxRecDepth 100000 in
theorem rm_format {w : World} {B r : Nat} {X : Nat → Prop} {s : DS} (h : RefIs w B X r s) (hB : B ≤ w.heap.size) :
    Calls Try.prog 35 #[.pointer (some ⟨r, 0, none⟩)] w fun e w' => e = .returned (.int .i64 (fmT s).1) ∧ RefIs w' B X r (fmT s).2 ∧ Mod (RM B X) w w' := by
  have HR := Lib.hid h
  have HBw := Lib.hid hB
  have hn1 : 1 ≤ s.n ∧ s.n ≤ 8192 := by obtain ⟨lv, L, h0⟩ := h; exact h0.n1
  clear h hB
  by_cases hn : s.n < 40
  · have HB := Lib.hid (show fmT s = (2, s) by unfold fmT; rw [if_pos hn])
    have d1 : decide (s.n < 40) = true := by simpa using hn
    go_enter Try.func35, Try.ntmps35
    go_wp2_with ((with_reducible refine (rf_sectors HR.out).mono ?_); rintro e w' ⟨rfl, rfl⟩)
    go_returns
    rw [HB.out]
    exact ⟨rfl, HR.out, Mod.refl _ _⟩
  · have d1 : decide (s.n < 40) = false := by simpa using hn
    obtain ⟨N, hN⟩ : ∃ N : Nat, s.n = N := ⟨s.n.toNat, by omega⟩
    have HB := Lib.hid (show fmT s = if (fmGo s N).1 ≠ 0 then fmGo s N else if (syncT (fmGo s N).2).1 ≠ 0 then syncT (fmGo s N).2 else mwT (syncT (fmGo s N).2).2 oneM by unfold fmT; rw [if_neg hn, hN, Int.toNat_natCast])
    have HN := Lib.hid hN
    have hN1 : N ≤ 8192 := by omega
    go_enter Try.func35, Try.ntmps35
    go_wp2_with fail
    refine (rf_sectors HR.out).mono ?_
    rintro e w' ⟨rfl, rfl⟩
    clear hN hn hn1
    go_wp2_with fail
    go_loopw [3] (fun i wr => ∃ k : Nat, i = .int .i64 k ∧ k ≤ N ∧ (fmGo s k).1 = 0 ∧ RefIs wr B X r (fmGo s k).2 ∧ Mod (RM B X) w wr) (fun i _ => N - (intOf i).toNat)
    case atStart => exact ⟨0, rfl, Nat.zero_le _, rfl, HR.out, Mod.refl _ _⟩
    case round =>
      obtain ⟨k, rfl, hk, hz, hl, hm⟩ := hrel
      have HR2 := Lib.hid hl
      have HM2 := Lib.hid hm
      have HZ := Lib.hid hz
      clear hl hm hz
      go_wp2_with fail
      refine (rf_sectors HR2.out).mono ?_
      rintro e w' ⟨rfl, rfl⟩
      rw [show (fmGo s k).2.n = (N : Int) from (fmGo_n s k).trans HN.out]
      by_cases hkN : k < N
      · have d1 : decide ((k : Int) < (N : Int)) = true := by simpa using hkN
        go_wp2_with (with_reducible refine at_ (o := ⟨some 17, _, _, _, _, _⟩) ?_)
        refine un (wpList_make rfl 51 _ _ rfl 5 (.int .u8 0) 1 Try.underlying51 binfo rfl .i64 .i64 512 512 rfl rfl (Nat.le_refl _) (by omega) (by omega) ?_)
        intro w3 g3 hb3 hm3 hs3
        have HR3 := Lib.hid (show Rd w3 (fun k => k = g3) 1 (.slice (some ⟨g3, 0, none⟩) 512 512) zs.length (u8s zs) from
          ⟨_, _, rfl, Nat.le_refl _, by rw [length_u8s]; rfl, fun _ => ⟨g3, 0, rfl, rfl, blk_lt hb3, block_cells (by rw [hb3, u8s, zs, List.map_replicate]; rfl)⟩⟩)
        have HS := Lib.hid (show fmGo s (k + 1) = writeT (fmGo s k).2 k zs by rw [fmGo, if_neg (by rw [HZ.out]; simp)])
        have HM3 := Lib.hid hm3
        clear hb3 hm3
        go_frame
        go_wp2_with fail
        refine (rf_write_new HR2.out HM3.out (fun _ e => e.elim) k HR3.out (fun j hj _ => .inl (by rw [hj]; exact hs3))).mono ?_
        rintro e w4 ⟨rfl, hl4, hm4, _⟩
        rw [← HS.out] at hl4 ⊢
        have HR4 := Lib.hid hl4
        have HM4 := Lib.hid ((HM2.out.trans' (HM3.out.mono (S' := RM B X) fun _ _ e => e.elim)).trans' hm4)
        clear hl4 hm4
        by_cases hz : (fmGo s (k + 1)).1 = 0
        · have HZ1 := Lib.hid hz
          rw [hz]
          clear hz
          go_wp2_with fail
          exact ⟨⟨k + 1, by go_num, by omega, HZ1.out, HR4.out, HM4.out⟩, by simp [intOf]; omega⟩
        · have dz : ((fmGo s (k + 1)).1 != 0) = true := by simpa using hz
          have HE := Lib.hid (show fmT s = fmGo s (k + 1) by
            have h1 := fmGo_stop s (k + 1) hz (N - (k + 1))
            rw [show k + 1 + (N - (k + 1)) = N by omega] at h1
            rw [HB.out, h1, if_pos hz])
          clear hz
          go_wp2_with fail
          go_returns
          rw [HE.out]
          exact ⟨rfl, HR4.out, HM4.out⟩
      · obtain rfl : k = N := by omega
        have d1 : decide ((k : Int) < (k : Int)) = false := by simp
        go_wp2_with fail
        refine (rf_sync HR2.out).mono ?_
        rintro e w3 ⟨rfl, hl3, hm3⟩
        have HR3 := Lib.hid hl3
        have HM3 := Lib.hid (HM2.out.trans' hm3)
        clear hl3 hm3
        by_cases hz : (syncT (fmGo s k).2).1 = 0
        · have HE := Lib.hid (show fmT s = mwT (syncT (fmGo s k).2).2 oneM by rw [HB.out, if_neg (by rw [HZ.out]; simp), if_neg (by rw [hz]; simp)])
          rw [hz]
          clear hz
          go_wp2_with fail
          refine (show Calls Try.prog 38 #[.pointer (some ⟨r, 0, none⟩), mV oneM] _ _ from rm_write HR3.out (Nat.le_trans HBw.out HM3.out.size) oneM).mono ?_
          rintro e w4 ⟨rfl, hl4, hm4⟩
          have HR4 := Lib.hid hl4
          have HM4 := Lib.hid (HM3.out.trans' hm4)
          clear hl4 hm4
          go_wp2_with fail
          go_returns
          rw [HE.out]
          exact ⟨rfl, HR4.out, HM4.out⟩
        · have dz : ((syncT (fmGo s k).2).1 != 0) = true := by simpa using hz
          have HE := Lib.hid (show fmT s = syncT (fmGo s k).2 by rw [HB.out, if_neg (by rw [HZ.out]; simp), if_pos hz])
          clear hz
          go_wp2_with fail
          go_returns
          rw [HE.out]
          exact ⟨rfl, HR3.out, HM3.out⟩

end Go.Proofs.Ythkbnhoebijdoaa
