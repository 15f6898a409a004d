/-
  Masters: written, and a disk made new.
-/
import Derived.Test.YthkbnhoebijdoaaMarkB
import Derived.Test.YthkbnhoebijdoaaDiskT
import Derived.Deep.RegionHeld3
import Derived.Laws.Bits128
namespace Go.Proofs.Ythkbnhoebijdoaa
open Go Go.RowKit Go.SM

theorem i64_and1 (n : Int) : bits .and .i64 n 1 = n % 2 := by
  have h127 : (BitVec.ofInt 64 1).toNat = 2 ^ 1 - 1 := by decide
  have key : (BitVec.ofInt 64 n &&& BitVec.ofInt 64 1).toNat = (n % ((2 ^ 64 : Nat) : Int)).toNat % 2 ^ 1 := by
    rw [BitVec.toNat_and, BitVec.toNat_ofInt, h127, Nat.and_two_pow_sub_one_eq_mod]
  show IntKind.i64.wrap ((BitVec.ofInt 64 n &&& BitVec.ofInt 64 1).toNat : Nat) = n % 2
  rw [key, IntKind.wrap_i64]
  omega

/-- a master written: what it says, and the disk behind it -/
def mwT (s : DS) (m : Mst) : Int × DS :=
  if s.n < 40 then (2, s) else if m.may = false then (2, s) else
    if (writeT s (m.seq % 2) (secM m)).1 ≠ 0 then writeT s (m.seq % 2) (secM m) else syncT (writeT s (m.seq % 2) (secM m)).2

theorem lv_write_t {w0 w : World} {b ms mo : Nat} {s : DS} (h : Live w0 w b ms mo s) (n : Int) {D : Nat → Prop} {v : Value} {l : List UInt8} (hx : Rd w D 1 v l.length (u8s l)) :
    Calls Try.prog 25 #[.pointer (some ⟨b, 0, none⟩), .int .i64 n, v] w fun e w' => e = .returned (.int .i64 (writeT s n l).1) ∧ Live w0 w' b ms mo (writeT s n l).2 ∧ Mod (dkOwn b ms mo) w w' :=
  (write_t h.at_ n hx).mono fun _ _ ⟨he, hd, hm⟩ => ⟨he, h.turn hd hm, hm⟩
theorem lv_sync_t {w0 w : World} {b ms mo : Nat} {s : DS} (h : Live w0 w b ms mo s) :
    Calls Try.prog 33 #[.pointer (some ⟨b, 0, none⟩)] w fun e w' => e = .returned (.int .i64 (syncT s).1) ∧ Live w0 w' b ms mo (syncT s).2 ∧ Mod (dkOwn b ms mo) w w' :=
  (sync_t h.at_).mono fun _ _ ⟨he, hd, hm⟩ => ⟨he, h.turn hd hm, hm⟩

set_option maxHeartbeats 4000000 in
set_option maxRecDepth 100000 in
theorem mk_write {w0 w : World} {b ms mo : Nat} {s : DS} (h : Live w0 w b ms mo s) (m : Mst) :
    Calls Try.prog 13 #[.pointer (some ⟨b, 0, none⟩), mV m] w fun e w' => e = .returned (.int .i64 (mwT s m).1) ∧ Live w0 w' b ms mo (mwT s m).2 ∧ Mod (dkOwn b ms mo) w w' := by
  unfold mV mCells
  have HL := Lib.hid h
  clear h
  by_cases hn : s.n < 40
  · have HB := Lib.hid (show mwT s m = (2, s) by unfold mwT; rw [if_pos hn])
    go_enter Try.func13, Try.ntmps13
    go_wp2_with (with_reducible refine at_ (o := ⟨some 3, .box _ _, _, _, _, _⟩) ?_)
    refine un (wpList_box rfl 27 _ rfl _ rfl ?_)
    intro w1 g hb1 hm1 hs1
    have HL1 := Lib.hid (HL.out.keep hm1)
    have HM1 := Lib.hid hm1
    clear hb1 hm1 hs1
    go_frame
    go_wp2_with ((with_reducible refine (big_live HL1.out).mono ?_); rintro e w' ⟨rfl, rfl⟩; rw [if_pos hn])
    go_returns
    rw [HB.out]
    exact ⟨rfl, HL1.out, HM1.out.mono fun _ _ e => e.elim⟩
  · cases hmay : m.may with
    | false =>
      have HB := Lib.hid (show mwT s m = (2, s) by unfold mwT; rw [if_neg hn, if_pos hmay])
      have HMY := Lib.hid hmay
      clear hmay
      go_enter Try.func13, Try.ntmps13
      go_wp2_with (with_reducible refine at_ (o := ⟨some 3, .box _ _, _, _, _, _⟩) ?_)
      refine un (wpList_box rfl 27 _ rfl _ rfl ?_)
      intro w1 g hb1 hm1 hs1
      have HL1 := Lib.hid (HL.out.keep hm1)
      have HM1 := Lib.hid hm1
      have HC1 := Lib.hid hb1
      clear hb1 hm1 hs1
      go_frame
      go_wp2_with fail
      refine (big_live HL1.out).mono ?_
      rintro e w' ⟨rfl, rfl⟩
      rw [if_neg (by omega)]
      go_wp2_with (with_reducible refine at_ (o := ⟨some 12, _, _, _, _, _⟩) ?_)
      refine un (wpList_load rfl 27 _ rfl g 0 rfl [.int .i64 m.seq, .int .i64 m.turn, .int .i64 m.oldest, .int .i64 m.mark] _ Try.underlying27 rfl (block_cells HC1.out) (by rw [mst_size]; rfl) ?_)
      go_frame
      go_wp2_with fail
      refine (may_mst m _).mono ?_
      rintro e w2 ⟨rfl, hm2⟩
      rw [HMY.out]
      have HL2 := Lib.hid (HL1.out.keep hm2)
      have HM2 := Lib.hid (HM1.out.trans' hm2)
      clear hm2
      go_wp2_with fail
      go_returns
      rw [HB.out]
      exact ⟨rfl, HL2.out, HM2.out.mono fun _ _ e => e.elim⟩
    | true =>
      have HMY := Lib.hid hmay
      have HB := Lib.hid (show mwT s m = if (writeT s (m.seq % 2) (secM m)).1 ≠ 0 then writeT s (m.seq % 2) (secM m) else syncT (writeT s (m.seq % 2) (secM m)).2 by unfold mwT; rw [if_neg hn, if_neg (by rw [hmay]; simp)])
      have HAnd := Lib.hid (i64_and1 m.seq)
      clear hmay
      go_enter Try.func13, Try.ntmps13
      go_wp2_with (with_reducible refine at_ (o := ⟨some 3, .box _ _, _, _, _, _⟩) ?_)
      refine un (wpList_box rfl 27 _ rfl _ rfl ?_)
      intro w1 g hb1 hm1 hs1
      have HL1 := Lib.hid (HL.out.keep hm1)
      have HM1 := Lib.hid hm1
      have HC1 := Lib.hid hb1
      clear hb1 hm1
      go_frame
      go_wp2_with fail
      refine (big_live HL1.out).mono ?_
      rintro e w' ⟨rfl, rfl⟩
      rw [if_neg (by omega)]
      go_wp2_with (with_reducible refine at_ (o := ⟨some 12, _, _, _, _, _⟩) ?_)
      refine un (wpList_load rfl 27 _ rfl g 0 rfl [.int .i64 m.seq, .int .i64 m.turn, .int .i64 m.oldest, .int .i64 m.mark] _ Try.underlying27 rfl (block_cells HC1.out) (by rw [mst_size]; rfl) ?_)
      go_frame
      go_wp2_with fail
      refine (may_mst m _).mono ?_
      rintro e w2 ⟨rfl, hm2⟩
      rw [HMY.out]
      have HL2 := Lib.hid (HL1.out.keep hm2)
      have HM2 := Lib.hid (HM1.out.trans' hm2)
      have hc2 : w2.heap[g]? = some (.cells (mCells m) 27 (0, 0)) := hm2.get HC1.out (fun e => e)
      clear hm2
      go_wp2_with fail
      have hload : ∀ W : World, W.heap[g]? = some (.cells (mCells m) 27 (0, 0)) → W.cell? ⟨g, 0, none⟩ = some (.int .i64 m.seq) ∧ W.cell? ⟨g, 1, none⟩ = some (.int .i64 m.turn) ∧ W.cell? ⟨g, 2, none⟩ = some (.int .i64 m.oldest) ∧ W.cell? ⟨g, 3, none⟩ = some (.int .i64 m.mark) :=
        fun W hW => MstAt.of hW
      have h2 := hload _ hc2
      have HLO := Lib.hid hload
      clear hload
      go_region_held3 (fun W : World => W.cell? ⟨g, 0, none⟩ = some (.int .i64 m.seq) ∧ W.cell? ⟨g, 1, none⟩ = some (.int .i64 m.turn) ∧ W.cell? ⟨g, 2, none⟩ = some (.int .i64 m.oldest) ∧ W.cell? ⟨g, 3, none⟩ = some (.int .i64 m.mark))
        (first | exact h2 | exact hS3 | exact hS4)
        (first | (go_at_call 32; refine (mbytes_any m _).mono ?_; rintro e w3 ⟨v3, rfl, ho3, hm3⟩; have hS3 := HLO.out _ (hm3.of_drew.get hc2 (fun e => e)))
               | (go_at_call 25; rw [HAnd.out]; refine (lv_write_t (HL2.out.keep hm3.of_drew) _ (l := secM m) (by rw [secM_length]; exact ho3.rd)).mono ?_; rintro e w4 ⟨rfl, hl4, hm4⟩; have hS4 := HLO.out _ (hm4.get (hm3.of_drew.get hc2 (fun e => e)) (fun e => by have h1 := HL.out.at_.own_lt g e; omega))))
      have HL4 := Lib.hid hl4
      have HM4 := Lib.hid (((HM2.out.mono (S' := dkOwn b ms mo) fun _ _ e => e.elim).trans' ((hm3.of_drew).mono (S' := dkOwn b ms mo) fun _ _ e => e.elim)).trans' hm4)
      clear hl4 hm4 hm3 ho3 hS3 hS4 hc2 h2
      by_cases hz : (writeT s (m.seq % 2) (secM m)).1 = 0
      · have HZ := Lib.hid (HB.out.trans (if_neg (by simpa using hz)))
        rw [hz]
        clear hz
        go_wp2_with fail
        refine (lv_sync_t HL4.out).mono ?_
        rintro e w5 ⟨rfl, hl5, hm5⟩
        have HL5 := Lib.hid hl5
        have HM5 := Lib.hid (HM4.out.trans' hm5)
        clear hl5 hm5
        go_wp2_with fail
        go_returns
        rw [HZ.out]
        exact ⟨rfl, HL5.out, HM5.out⟩
      · have HZ := Lib.hid (HB.out.trans (if_pos hz))
        have dz : ((writeT s (m.seq % 2) (secM m)).1 != 0) = true := by simpa using hz
        clear hz
        go_wp2_with fail
        go_returns
        rw [HZ.out]
        exact ⟨rfl, HL4.out, HM4.out⟩

/-- no place for a master -/
theorem mk_write_no {w : World} {p : Value} (h : Nought w p) (m : Mst) :
    Calls Try.prog 13 #[p, mV m] w fun e w' => e = .returned (.int .i64 1) ∧ Mod none_ w w' := by
  unfold mV mCells
  have H := Lib.hid h
  clear h
  go_enter Try.func13, Try.ntmps13
  go_wp2_with (with_reducible refine at_ (o := ⟨some 3, .box _ _, _, _, _, _⟩) ?_)
  refine un (wpList_box rfl 27 _ rfl _ rfl ?_)
  intro w1 g hb1 hm1 hs1
  have H1 := Lib.hid (H.out.keep hm1 (fun _ _ e => e))
  have HM1 := Lib.hid hm1
  clear hb1 hm1 hs1
  go_frame
  go_wp2_with ((with_reducible refine (big_no H1.out).mono ?_); rintro e w' ⟨rfl, rfl⟩)
  go_returns
  exact ⟨rfl, HM1.out⟩

theorem mk_format_no {w : World} {p : Value} (h : Nought w p) :
    Calls Try.prog 14 #[p] w fun e w' => e = .returned (.int .i64 1) ∧ Mod none_ w w' := by
  have H := Lib.hid h
  clear h
  go_enter Try.func14, Try.ntmps14
  go_wp2_with ((with_reducible refine (big_no H.out).mono ?_); rintro e w' ⟨rfl, rfl⟩)
  go_returns
  exact ⟨rfl, Mod.refl _ _⟩

/-- a disk made new: the sectors are written in turn, till one says no -/
def fmGo (s : DS) : Nat → Int × DS
  | 0 => (0, s)
  | k + 1 => if (fmGo s k).1 ≠ 0 then fmGo s k else writeT (fmGo s k).2 k zs
def oneM : Mst := ⟨1, 1, 1, 0⟩
def fmT (s : DS) : Int × DS :=
  if s.n < 40 then (2, s) else if (fmGo s s.n.toNat).1 ≠ 0 then fmGo s s.n.toNat else
    if (syncT (fmGo s s.n.toNat).2).1 ≠ 0 then syncT (fmGo s s.n.toNat).2 else mwT (syncT (fmGo s s.n.toNat).2).2 oneM

theorem writeT_n (s : DS) (k : Int) (l : List UInt8) : (writeT s k l).2.n = s.n := by
  unfold writeT writeS crashS
  split
  · rfl
  · split
    · rfl
    · split <;> rfl
theorem fmGo_n (s : DS) (k : Nat) : (fmGo s k).2.n = s.n := by
  induction k with
  | zero => rfl
  | succ k ih =>
    unfold fmGo
    split
    · exact ih
    · rw [writeT_n, ih]
/-- once one said no, it stays so -/
theorem fmGo_stop (s : DS) (k : Nat) (h : (fmGo s k).1 ≠ 0) : ∀ j, fmGo s (k + j) = fmGo s k
  | 0 => rfl
  | j + 1 => by
    have ih := fmGo_stop s k h j
    show fmGo s (k + j + 1) = _
    rw [fmGo, ih, if_pos h]

set_option maxHeartbeats 4000000 in
set_option maxRecDepth 100000 in
theorem mk_format {w0 w : World} {b ms mo : Nat} {s : DS} (h : Live w0 w b ms mo s) :
    Calls Try.prog 14 #[.pointer (some ⟨b, 0, none⟩)] w fun e w' => e = .returned (.int .i64 (fmT s).1) ∧ Live w0 w' b ms mo (fmT s).2 ∧ Mod (dkOwn b ms mo) w w' := by
  have HL := Lib.hid h
  have hn1 := h.at_.n1
  clear h
  by_cases hn : s.n < 40
  · have HB := Lib.hid (show fmT s = (2, s) by unfold fmT; rw [if_pos hn])
    go_enter Try.func14, Try.ntmps14
    go_wp2_with ((with_reducible refine (big_live HL.out).mono ?_); rintro e w' ⟨rfl, rfl⟩; rw [if_pos hn])
    go_returns
    rw [HB.out]
    exact ⟨rfl, HL.out, Mod.refl _ _⟩
  · obtain ⟨N, hN⟩ : ∃ N : Nat, s.n = N := ⟨s.n.toNat, by omega⟩
    have HB := Lib.hid (show fmT s = if (fmGo s N).1 ≠ 0 then fmGo s N else if (syncT (fmGo s N).2).1 ≠ 0 then syncT (fmGo s N).2 else mwT (syncT (fmGo s N).2).2 oneM by unfold fmT; rw [if_neg hn, hN, Int.toNat_natCast])
    have HN := Lib.hid hN
    have hN1 : N ≤ 8192 := by omega
    go_enter Try.func14, Try.ntmps14
    go_wp2_with fail
    refine (big_live HL.out).mono ?_
    rintro e w' ⟨rfl, rfl⟩
    rw [if_neg (by omega)]
    go_wp2_with fail
    refine (lv_sectors HL.out N HN.out).mono ?_
    rintro e w1 ⟨rfl, hl1, hm1⟩
    have HL1 := Lib.hid hl1
    have HM1 := Lib.hid hm1
    clear hl1 hm1 hN hn hn1
    go_wp2_with fail
    go_loopw [14] (fun i wr => ∃ k : Nat, i = .int .i64 k ∧ k ≤ N ∧ (fmGo s k).1 = 0 ∧ Live w0 wr b ms mo (fmGo s k).2 ∧ Mod (dkOwn b ms mo) w wr) (fun i _ => N - (intOf i).toNat)
    case atStart => exact ⟨0, rfl, Nat.zero_le _, rfl, HL1.out, HM1.out⟩
    case round =>
      obtain ⟨k, rfl, hk, hz, hl, hm⟩ := hrel
      have HL2 := Lib.hid hl
      have HM2 := Lib.hid hm
      have HZ := Lib.hid hz
      clear hl hm hz HL1 HM1
      by_cases hkN : k < N
      · have d1 : decide ((k : Int) < (N : Int)) = true := by simpa using hkN
        go_wp2_with (with_reducible refine at_ (o := ⟨some 19, _, _, _, _, _⟩) ?_)
        refine un (wpList_make rfl 51 _ _ rfl 5 (.int .u8 0) 1 Try.underlying51 binfo rfl .i64 .i64 512 512 rfl rfl (Nat.le_refl _) (by omega) (by omega) ?_)
        intro w3 g3 hb3 hm3 hs3
        have HL3 := Lib.hid (HL2.out.keep hm3)
        have HM3 := Lib.hid (HM2.out.trans' (hm3.mono (S' := dkOwn b ms mo) fun _ _ e => e.elim))
        have HR3 := Lib.hid (show Rd w3 (Fr w) 1 (.slice (some ⟨g3, 0, none⟩) 512 512) zs.length (u8s zs) from
          ⟨_, _, rfl, Nat.le_refl _, by rw [length_u8s]; rfl, fun _ => ⟨g3, 0, rfl, Nat.le_trans HM2.out.size hs3, blk_lt hb3, block_cells (by rw [hb3, u8s, zs, List.map_replicate]; rfl)⟩⟩)
        have HS := Lib.hid (show fmGo s (k + 1) = writeT (fmGo s k).2 k zs by rw [fmGo, if_neg (by rw [HZ.out]; simp)])
        clear hb3 hm3 hs3
        go_frame
        go_wp2_with fail
        refine (lv_write_t HL3.out k HR3.out).mono ?_
        rintro e w4 ⟨rfl, hl4, hm4⟩
        rw [← HS.out] at hl4 ⊢
        have HL4 := Lib.hid hl4
        have HM4 := Lib.hid (HM3.out.trans' hm4)
        clear hl4 hm4
        by_cases hz : (fmGo s (k + 1)).1 = 0
        · have HZ1 := Lib.hid hz
          rw [hz]
          clear hz
          go_wp2_with fail
          exact ⟨⟨k + 1, by go_num, by omega, HZ1.out, HL4.out, HM4.out⟩, by simp [intOf]; omega⟩
        · have dz : ((fmGo s (k + 1)).1 != 0) = true := by simpa using hz
          have HE := Lib.hid (show fmT s = fmGo s (k + 1) by
            have h1 := fmGo_stop s (k + 1) hz (N - (k + 1))
            rw [show k + 1 + (N - (k + 1)) = N by omega] at h1
            rw [HB.out, h1, if_pos hz])
          clear hz
          go_wp2_with fail
          go_returns
          rw [HE.out]
          exact ⟨rfl, HL4.out, HM4.out⟩
      · obtain rfl : k = N := by omega
        go_wp2_with fail
        refine (lv_sync_t HL2.out).mono ?_
        rintro e w3 ⟨rfl, hl3, hm3⟩
        have HL3 := Lib.hid hl3
        have HM3 := Lib.hid (HM2.out.trans' hm3)
        clear hl3 hm3
        by_cases hz : (syncT (fmGo s k).2).1 = 0
        · have HE := Lib.hid (show fmT s = mwT (syncT (fmGo s k).2).2 oneM by rw [HB.out, if_neg (by rw [HZ.out]; simp), if_neg (by rw [hz]; simp)])
          rw [hz]
          clear hz
          go_wp2_with fail
          refine (show Calls Try.prog 13 #[.pointer (some ⟨b, 0, none⟩), mV oneM] _ _ from mk_write HL3.out oneM).mono ?_
          rintro e w4 ⟨rfl, hl4, hm4⟩
          have HL4 := Lib.hid hl4
          have HM4 := Lib.hid (HM3.out.trans' hm4)
          clear hl4 hm4
          go_wp2_with fail
          go_returns
          rw [HE.out]
          exact ⟨rfl, HL4.out, HM4.out⟩
        · have dz : ((syncT (fmGo s k).2).1 != 0) = true := by simpa using hz
          have HE := Lib.hid (show fmT s = syncT (fmGo s k).2 by rw [HB.out, if_neg (by rw [HZ.out]; simp), if_pos hz])
          clear hz
          go_wp2_with fail
          go_returns
          rw [HE.out]
          exact ⟨rfl, HL3.out, HM3.out⟩

end Go.Proofs.Ythkbnhoebijdoaa
