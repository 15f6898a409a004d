/-
  MarkNil: the walk.
-/
import Derived.Test.YthkbnhoebijdoaaMarkG
namespace Go.Proofs.Ythkbnhoebijdoaa
open Go Go.RowKit Go.SM

set_option maxHeartbeats 4000000 in
set_option maxRecDepth 100000 in
theorem nil25_walk (m : Mst) (w : World) : Calls Try.prog 4 #[mV m] w fun e w' => e = .returned (.bool true) ∧ Mod none_ w w' := by
  unfold mV mCells
  go_enter Try.func4, Try.ntmps4
  go_wp2_with (with_reducible refine at_ (o := ⟨some 1, .box _ _, _, _, _, _⟩) ?_)
  refine un (wpList_box rfl 27 _ rfl _ rfl ?_)
  intro w1 g1 hb1 hm1 hs1
  have HM1 := Lib.hid hm1
  have HB1 := Lib.hid hb1
  clear hb1 hm1 hs1
  go_frame
  go_wp2_with fail
  refine (awake25 _).mono ?_
  rintro e w2 ⟨rfl, hm2⟩
  have HM2 := Lib.hid (HM1.out.trans' hm2)
  have HB2 := Lib.hid (hm2.get HB1.out (fun e => e))
  clear hm2
  go_wp2_with fail
  have hma := (Mod.refl none_ w2).alloc (.cells (zCells 0) 31)
  have hmb := (Mod.refl none_ (w2.alloc (.cells (zCells 0) 31))).alloc (.cells #[.pointer none, .pointer (some ⟨w2.heap.size, 0, none⟩)] 28)
  have HZ3 := Lib.hid (show ZeroAt _ w2.heap.size 0 from hmb.get (heap_alloc_new w2 (.cells (zCells 0) 31)) (fun e => e))
  have HS3 := Lib.hid (heap_alloc_new (w2.alloc (.cells (zCells 0) 31)) (.cells #[.pointer none, .pointer (some ⟨w2.heap.size, 0, none⟩)] 28))
  have HM3 := Lib.hid (HM2.out.trans' (hma.trans' hmb))
  have HB3 := Lib.hid ((hma.trans' hmb).get HB2.out (fun e => e))
  clear hma hmb HB2 HM2 HB1 HM1
  have hsz : (w2.alloc (.cells (zCells 0) 31)).heap.size = w2.heap.size + 1 := by simp
  rw [hsz] at HS3
  clear hsz
  obtain ⟨gZ, hgZ⟩ : ∃ g, g = w2.heap.size := ⟨_, rfl⟩
  rw [← hgZ] at HZ3 HS3 HM3 HB3 ⊢
  obtain ⟨gS, hgS⟩ : ∃ g, g = gZ + 1 := ⟨_, rfl⟩
  rw [← hgS] at HS3 ⊢
  have HgZ := Lib.hid hgZ
  have HgS := Lib.hid hgS
  clear hgZ hgS
  go_loopw [4] (fun i wr => ∃ k : Nat, i = .int .i64 k ∧ k ≤ 2 ∧ ZeroAt wr gZ 0 ∧ wr.heap[gS]? = some (.cells #[.pointer none, .pointer (some ⟨gZ, 0, none⟩)] 28 (0, 0)) ∧ wr.heap[g1]? = some (.cells (mCells m) 27 (0, 0)) ∧ Mod none_ w wr) (fun i _ => 2 - (intOf i).toNat)
  case atStart => exact ⟨0, rfl, Nat.zero_le _, HZ3.out, HS3.out, HB3.out, HM3.out⟩
  case round =>
    obtain ⟨k, rfl, hk, hz, hs, hb, hm⟩ := hrel
    have HZ := Lib.hid hz
    have HS := Lib.hid hs
    have HB := Lib.hid hb
    have HM := Lib.hid hm
    clear hz hs hb hm HZ3 HS3 HB3 HM3
    by_cases hk2 : k < 2
    · have hp : ∃ p : Option Addr, wr.cell? ⟨gS, k, none⟩ = some (.pointer p) ∧ Nought wr (.pointer p) := by
        match k, hk2 with
        | 0, _ => exact ⟨none, by rw [cell_of_row wr gS 0 _ _ _ HS.out]; rfl, .inl rfl⟩
        | 1, _ => exact ⟨some ⟨gZ, 0, none⟩, by rw [cell_of_row wr gS 1 _ _ _ HS.out]; rfl, .inr ⟨gZ, 0, rfl, HZ.out⟩⟩
      obtain ⟨p, q, hno⟩ := hp
      have HNO := Lib.hid hno
      have d1 : decide ((k : Int) < 2) = true := by simp; omega
      have d2 : (k : Int) < 2 := by omega
      clear hno
      go_wp2_with fail
      refine (mk_read_no HNO.out).mono ?_
      rintro e w5 ⟨rfl, hm5⟩
      have HM5 := Lib.hid (HM.out.trans' hm5)
      have HZ5 := Lib.hid (show ZeroAt w5 gZ 0 from hm5.get HZ.out (fun e => e))
      have HS5 := Lib.hid (hm5.get HS.out (fun e => e))
      have HB5 := Lib.hid (hm5.get HB.out (fun e => e))
      have HN5 := Lib.hid (HNO.out.keep hm5 (fun _ _ e => e))
      have HQ := Lib.hid ((hm5.cell (p := ⟨gS, k, none⟩) (blk_lt HS.out) (fun e => e)).trans q)
      clear hm5 q
      go_wp2_with (with_reducible refine at_ (o := ⟨some 5, .alloc _, _, _, _, _⟩) ?_)
      refine un (wpList_alloc rfl 27 rfl (mCells zeroM) (run_zeroM _) ?_)
      intro w6 g6 hb6 hm6 hs6
      go_frame
      go_wp2_with (with_reducible refine at_ (o := ⟨none, .store _ _ _, _, _, _, _⟩) ?_)
      refine un (wpList_store rfl 27 _ _ rfl g6 rfl [.int .i64 0, .int .i64 0, .int .i64 0, .int .i64 0] rfl _ _ hb6 (mCells_size zeroM) (by rw [mst_size]; rfl) (mCells_one zeroM) ?_)
      intro w7 hb7 hm7
      have hm57 : Mod none_ w5 w7 := hm6.trans hm7 (fun r e hr => by omega)
      have HM7 := Lib.hid (HM5.out.trans' hm57)
      have HZ7 := Lib.hid (show ZeroAt w7 gZ 0 from hm57.get HZ5.out (fun e => e))
      have HS7 := Lib.hid (hm57.get HS5.out (fun e => e))
      have HB7 := Lib.hid (hm57.get HB5.out (fun e => e))
      have HN7 := Lib.hid (HN5.out.keep hm57 (fun _ _ e => e))
      have HQ7 := Lib.hid ((hm57.cell (p := ⟨gS, k, none⟩) (blk_lt HS5.out) (fun e => e)).trans HQ.out)
      clear hm6 hm7 hm57 hb6 hs6 HZ HS HB HNO HM HM5 HZ5 HS5 HB5 HN5 HQ
      go_frame
      go_wp2_with fail
      have hload : ∀ W : World, Mod none_ w7 W → (W.cell? ⟨g6, 0, none⟩ = some (.int .i64 0) ∧ W.cell? ⟨g6, 1, none⟩ = some (.int .i64 0) ∧ W.cell? ⟨g6, 2, none⟩ = some (.int .i64 0) ∧ W.cell? ⟨g6, 3, none⟩ = some (.int .i64 0)) ∧ W.cell? ⟨gS, k, none⟩ = some (.pointer p) ∧ (W.cell? ⟨g1, 0, none⟩ = some (.int .i64 m.seq) ∧ W.cell? ⟨g1, 1, none⟩ = some (.int .i64 m.turn) ∧ W.cell? ⟨g1, 2, none⟩ = some (.int .i64 m.oldest) ∧ W.cell? ⟨g1, 3, none⟩ = some (.int .i64 m.mark)) :=
        fun W hW => ⟨MstAt.of (m := zeroM) (hW.get hb7 (fun e => e)), (hW.cell (p := ⟨gS, k, none⟩) (blk_lt HS7.out) (fun e => e)).trans HQ7.out, MstAt.of (m := m) (hW.get HB7.out (fun e => e))⟩
      have h7 := hload w7 (Mod.refl _ _)
      have HLO := Lib.hid hload
      have HB77 := Lib.hid hb7
      clear hload hb7
      go_region_held3 (fun W : World => (W.cell? ⟨g6, 0, none⟩ = some (.int .i64 0) ∧ W.cell? ⟨g6, 1, none⟩ = some (.int .i64 0) ∧ W.cell? ⟨g6, 2, none⟩ = some (.int .i64 0) ∧ W.cell? ⟨g6, 3, none⟩ = some (.int .i64 0)) ∧ W.cell? ⟨gS, k, none⟩ = some (.pointer p) ∧ (W.cell? ⟨g1, 0, none⟩ = some (.int .i64 m.seq) ∧ W.cell? ⟨g1, 1, none⟩ = some (.int .i64 m.turn) ∧ W.cell? ⟨g1, 2, none⟩ = some (.int .i64 m.oldest) ∧ W.cell? ⟨g1, 3, none⟩ = some (.int .i64 m.mark)))
        (first | exact h7 | exact hS8 | exact hS9)
        (first | (go_at_call 13; refine (show Calls Try.prog 13 #[.pointer p, .agg #[.int .i64 m.seq, .int .i64 m.turn, .int .i64 m.oldest, .int .i64 m.mark]] _ _ from mk_write_no (HN7.out.keep ((Mod.refl none_ w7).drew) (fun _ _ e => e)) m).mono ?_; rintro e w8 ⟨rfl, hm8⟩; have hS8 := HLO.out _ hm8.of_drew)
               | (go_at_call 14; refine (mk_format_no (HN7.out.keep hm8.of_drew (fun _ _ e => e))).mono ?_; rintro e w9 ⟨rfl, hm9⟩; have hS9 := HLO.out _ (hm8.of_drew.trans' hm9)))
      have HM9 := Lib.hid (HM7.out.trans' (hm8.of_drew.trans' hm9))
      have HZ9 := Lib.hid (show ZeroAt w9 gZ 0 from (hm8.of_drew.trans' hm9).get HZ7.out (fun e => e))
      have HS9 := Lib.hid ((hm8.of_drew.trans' hm9).get HS7.out (fun e => e))
      have HB9 := Lib.hid ((hm8.of_drew.trans' hm9).get HB7.out (fun e => e))
      clear hm8 hm9 hS8 hS9 h7 HLO HB77
      go_wp2_with fail
      exact ⟨⟨k + 1, by go_num, by omega, HZ9.out, HS9.out, HB9.out, HM9.out⟩, by simp [intOf]; omega⟩
    · have d1 : decide ((k : Int) < 2) = false := by simp; omega
      go_wp2_with fail
      go_returns
      exact ⟨rfl, HM.out⟩

end Go.Proofs.Ythkbnhoebijdoaa
