/-
  Masters: the document's bytes.
-/
import Derived.Test.YthkbnhoebijdoaaMarkD
import Derived.Lib.AppendStr
namespace Go.SM
open Go Go.RowKit
theorem OwnS.base {w : World} {D : Nat → Prop} {e : TypeId} {sz n B : Nat} {v : Value} {xs : List Value} (h : OwnS w D e sz v n xs) (hD : ∀ r, D r → B ≤ r) : w.ownsRow B e sz v n xs := by
  refine ⟨h.row.1, ?_⟩
  rcases h.row.2 with h2 | ⟨g, cap, cur, rfl, h3, h4⟩
  · exact .inl h2
  · exact .inr ⟨g, cap, cur, rfl, hD g (h.dom g rfl), h4⟩
theorem OwnS.of_base {w : World} {D : Nat → Prop} {e : TypeId} {sz n B : Nat} {v : Value} {xs : List Value} (h : w.ownsRow B e sz v n xs) (hD : ∀ r, B ≤ r → D r) : OwnS w D e sz v n xs := by
  refine ⟨⟨h.1, ?_⟩, fun g hg => hD g (h.lt g hg).1⟩
  rcases h.2 with h2 | ⟨g, cap, cur, h2, h3, h4⟩
  · exact .inl h2
  · exact .inr ⟨g, cap, cur, h2, Nat.zero_le _, h4⟩
end Go.SM

namespace Go.Proofs.Ythkbnhoebijdoaa
open Go Go.RowKit Go.SM

theorem byte_u64 (n : Int) (k : Nat) (h : k < 8) : n % 18446744073709551616 / 2 ^ (8 * k) % 256 = n / 2 ^ (8 * k) % 256 := by
  match k, h with
  | 0, _ | 1, _ | 2, _ | 3, _ | 4, _ | 5, _ | 6, _ | 7, _ => simp only [Nat.mul_zero, Nat.reduceMul, Int.reducePow]; omega

theorem binfo2 : ∃ i, Try.prog.info? 5 = some i ∧ i.zero = some (.int .u8 0) ∧ i.size = 1 ∧ i.bytes = 1 := by
  obtain ⟨i, h1, h2, h3, h4⟩ := info_parts binfo
  exact ⟨i, h1, h2, h3, h4⟩

theorem rmst_size : (Try.prog.info? 64).map (·.size) = some 4 := by kernel_rfl
theorem run_zeroR (w : World) : (zeroValue 64).run Try.prog w = .ok (mV zeroM) w := by
  have h : (Try.prog.info? 64).bind (·.zero) = some (mV zeroM) := by kernel_rfl
  obtain ⟨i, hi, hz⟩ := Option.bind_eq_some_iff.1 h
  simp [zeroValue, typeInfo, hi, hz]

set_option maxHeartbeats 4000000 in
set_option maxRecDepth 100000 in
theorem rbytes_any (m : Mst) (w : World) : Calls Try.prog 27 #[mV m] w fun e w' => ∃ v', e = .returned v' ∧ OwnS w' (Fr w) 5 1 v' 512 (u8s (secM m)) ∧ Mod none_ w w' := by
  unfold mV mCells
  obtain ⟨bi, hb1, hb2, hb3, hb4⟩ := binfo2
  have HBI := Lib.hid (show Try.prog.info? 5 = some bi ∧ bi.zero = some (.int .u8 0) ∧ bi.size = 1 ∧ bi.bytes = 1 from ⟨hb1, hb2, hb3, hb4⟩)
  clear hb1 hb2 hb3 hb4
  go_enter Try.func27, Try.ntmps27
  go_wp2_with (with_reducible refine at_ (o := ⟨some 1, .box _ _, _, _, _, _⟩) ?_)
  refine un (wpList_box rfl 64 _ rfl _ rfl ?_)
  intro w1 g hb1 hm1 hs1
  obtain ⟨c0, c1, c2, c3⟩ := MstAt.of (m := m) hb1
  have HM1 := Lib.hid hm1
  have HB1 := Lib.hid hb1
  clear hb1 hm1 hs1
  go_frame
  go_wp2_with (with_reducible refine at_ (o := ⟨some 7, _, _, _, _, _⟩) ?_)
  refine un (wpList_empty rfl 51 rfl elt8 (D := Fr w1) (fun _ h => h) ?_)
  intro v2 w2 ho2 hm2
  have HO2 := Lib.hid (ho2.base (B := w1.heap.size) (fun _ h => h))
  have HM2 := Lib.hid (HM1.out.trans' hm2)
  have HS2 := Lib.hid hm2.size
  have HB2 := Lib.hid (hm2.get HB1.out (fun e => e))
  clear ho2 hm2 c0 c1 c2 c3
  go_frame
  go_wp2_with (with_reducible refine at_ (o := ⟨some 8, _, _, _, _, _⟩) ?_)
  refine un (Go.Lib.wpList_append_own_string _ rfl _ _ 51 9 rfl w1.heap.size 5 bi Try.underlying51 Try.underlying9 HBI.out.1 HBI.out.2.1 HBI.out.2.2.1 HBI.out.2.2.2 v2 0 [] rfl HO2.out ⟨#[115, 116, 111, 114, 101, 109, 97, 110]⟩ rfl (by decide) (by decide) HS2.out ?_)
  intro v3 w3 ho3 hg3 _
  have hm3 : Mod (Fr w1) w2 w3 := (Mod.refl _ _).grown hg3 (fun k hk => .inl (HO2.out.lt k hk).1)
  have HO3 := Lib.hid (show OwnS w3 (Fr w) 5 1 v3 8 (u8s nameB) from OwnS.of_base ho3 (fun r hr => Nat.le_trans HM1.out.size hr))
  have HM3 := Lib.hid (show Mod none_ w w3 from HM2.out.trans hm3 (fun r e hr => by have h1 := HM1.out.size; unfold Fr at e; omega))
  obtain ⟨c0, c1, c2, c3⟩ := MstAt.of (m := m) (hm3.get HB2.out (fun e => by have h1 := blk_lt HB1.out; unfold Fr at e; omega))
  clear ho3 hg3 hm3
  go_frame
  go_wp2_with fail
  have hma := (Mod.refl none_ w3).alloc (.cells (ints m.nums).toArray 2)
  have HM4 := Lib.hid (HM3.out.trans' hma)
  obtain ⟨gn, hgn⟩ : ∃ gn, gn = w3.heap.size := ⟨_, rfl⟩
  have HO4 := Lib.hid (show OwnS (w3.alloc (.cells (ints m.nums).toArray 2)) (fun r => w.heap.size ≤ r ∧ r ≠ gn) 5 1 v3 8 (u8s nameB) from (HO3.out.mono (D' := fun r => w.heap.size ≤ r ∧ r ≠ gn) (fun r hr hlt => ⟨hr, by omega⟩)).keep hma (fun _ _ _ e => e))
  have HN4 := Lib.hid (show (w3.alloc (.cells (ints m.nums).toArray 2)).heap[gn]? = some (.cells (ints m.nums).toArray 2 (0, 0)) by rw [hgn]; exact heap_alloc_new w3 _)
  have HL4 := Lib.hid (show m.nums.length = 4 from rfl)
  clear hma c0 c1 c2 c3
  rw [← hgn]
  have HGN := Lib.hid hgn
  clear hgn
  go_loopw [3, 5] (fun o i wr => ∃ (k : Nat) (v : Value), i = .int .i64 k ∧ o = v ∧ k ≤ 4 ∧ OwnS wr (fun r => w.heap.size ≤ r ∧ r ≠ gn) 5 1 v (8 + 8 * k) (u8s (headB (m.nums.take k))) ∧ wr.heap[gn]? = some (.cells (ints m.nums).toArray 2 (0, 0)) ∧ Mod none_ w wr) (fun _ i _ => 4 - (intOf i).toNat)
  case atStart => exact ⟨0, _, rfl, rfl, by omega, HO4.out, HN4.out, HM4.out⟩
  case round =>
    obtain ⟨k, v, rfl, rfl, hk, ho, hn, hm⟩ := hrel
    have HO := Lib.hid ho
    have HN := Lib.hid hn
    have HM := Lib.hid hm
    clear ho hn hm HO4 HM4 HN4 HO3 HM3 HB2 HM2 HS2 HO2 HB1 HM1 HGN
    have hll := HL4.out
    have HSEC := Lib.hid (show secM m = secL m.nums from rfl)
    generalize m.nums = l at *
    by_cases hk4 : k < 4
    · have d1 : decide ((k : Int) < 4) = true := by simp; omega
      have d4 : (k : Int) < 4 := by omega
      have hkl : k < l.length := by omega
      have HS := Lib.hid (headB_step l k hkl)
      have HKL := Lib.hid (show (ints l)[k]? = some (.int .i64 l[k]) by simp [ints, hkl])
      go_wp2_with fail
      generalize l[k] = n at *
      go_loopw [3, 6] (fun o i wr => ∃ (z : Int) (j : Nat) (v : Value), i = .int .i64 z ∧ o = v ∧ z = 7 - (j : Int) ∧ j ≤ 8 ∧ OwnS wr (fun r => w.heap.size ≤ r ∧ r ≠ gn) 5 1 v (8 + 8 * k + j) (u8s (headB (l.take k) ++ (be8 n).take j)) ∧ wr.heap[gn]? = some (.cells (ints l).toArray 2 (0, 0)) ∧ Mod none_ w wr) (fun _ i _ => (intOf i + 1).toNat)
      case atStart => exact ⟨7, 0, _, rfl, rfl, by omega, by omega, by rw [List.take_zero, List.append_nil]; exact HO.out, HN.out, HM.out⟩
      case round =>
        obtain ⟨z, j, v, rfl, rfl, hz, hj, ho, hn, hm⟩ := hrel
        have HO2 := Lib.hid ho
        have HN2 := Lib.hid hn
        have HM2 := Lib.hid hm
        clear ho hn hm HO HM HN
        by_cases hj8 : j < 8
        · obtain ⟨r, rfl⟩ : ∃ r : Nat, z = r := ⟨z.toNat, by omega⟩
          have hr : r = 7 - j := by omega
          have hr8 : r < 8 := by omega
          have HR := Lib.hid hr
          have d2 : decide ((0 : Int) ≤ (r : Int)) = true := by simp
          have q : wr.cell? ⟨gn, k, none⟩ = some (.int .i64 n) := by rw [cell_of_row wr gn k _ _ _ HN2.out]; simpa using HKL.out
          have HBY := Lib.hid (byte_u64 n r hr8)
          clear hr hz
          go_wp2_with (with_reducible refine at_ (o := ⟨some 40, _, _, _, _, _⟩) ?_)
          have hv : (Value.int .u8 (IntKind.u64.wrap n / 2 ^ (8 * r) % 256)) = SM.u8 (byteAt n (56 - 8 * j)) := by
            rw [byteAt_cell, show 56 - 8 * j = 8 * r by have := HR.out; omega, IntKind.wrap_u64, HBY.out]
          have hma := (Mod.refl none_ wr).alloc (.cells #[.int .u8 (IntKind.u64.wrap n / 2 ^ (8 * r) % 256)] 5)
          have HRA := Lib.hid (show Rd (wr.alloc (.cells #[.int .u8 (IntKind.u64.wrap n / 2 ^ (8 * r) % 256)] 5)) (Fr wr) 1 (.slice (some ⟨wr.heap.size, 0, none⟩) 1 1) 1 (u8s [byteAt n (56 - 8 * j)]) from
            ⟨_, _, rfl, Nat.le_refl _, rfl, fun _ => ⟨_, _, rfl, Nat.le_refl _, by simp, block_cells (xs := u8s [byteAt n (56 - 8 * j)]) (by rw [show u8s [byteAt n (56 - 8 * j)] = [SM.u8 (byteAt n (56 - 8 * j))] from rfl, ← hv]; exact heap_alloc_new wr _)⟩⟩)
          have HOA := Lib.hid (HO2.out.keep hma (fun _ _ _ e => e))
          have HNA := Lib.hid (hma.get HN2.out (fun e => e))
          have HMA := Lib.hid (HM2.out.trans' hma)
          have HBS := Lib.hid (be8_step n j hj8)
          clear hma hv
          refine un (wpList_append rfl _ _ 51 rfl elt8 rfl HOA.out rfl HRA.out (u8s_one _) (by omega) (by omega) (fun r hr => ⟨Nat.le_trans HMA.out.size hr, by have := blk_lt HNA.out; omega⟩) ?_)
          intro v7 w7 ho7 hm7
          have HO7 := Lib.hid (show OwnS w7 (fun r => w.heap.size ≤ r ∧ r ≠ gn) 5 1 v7 (8 + 8 * k + (j + 1)) (u8s (headB (l.take k) ++ (be8 n).take (j + 1))) by
            rw [HBS.out, ← List.append_assoc, u8s_append]
            exact ho7)
          have HN7 := Lib.hid (hm7.get HNA.out (fun e => e.2 rfl))
          have HM7 := Lib.hid (HMA.out.trans hm7 (fun r e hr => by have := e.1; omega))
          clear ho7 hm7
          go_frame
          go_wp2_with fail
          have hr := HR.out
          exact ⟨⟨(r : Int) - 1, j + 1, _, by go_num, rfl, by omega, by omega, HO7.out, HN7.out, HM7.out⟩, by simp [intOf] <;> omega⟩
        · obtain rfl : j = 8 := by omega
          have hz0 : ¬ (0 : Int) ≤ z := by omega
          have d2 : decide ((0 : Int) ≤ z) = false := by simp; omega
          go_wp2_with fail
          have h := HO2.out
          rw [show (be8 n).take 8 = be8 n from rfl, ← HS.out] at h
          exact ⟨⟨k + 1, _, by go_num, rfl, by omega, h, HN2.out, HM2.out⟩, by simp [intOf] <;> omega⟩
    · obtain rfl : k = 4 := by omega
      have hlt : l.take 4 = l := List.take_of_length_le (by omega)
      have HO4 := Lib.hid (show OwnS wr (fun r => w.heap.size ≤ r ∧ r ≠ gn) 5 1 _ 40 (u8s (headB l)) by have h := HO.out; rw [hlt] at h; exact h)
      obtain ⟨A3, c3, rfl⟩ := HO4.out.rd.slice
      have HGL := Lib.hid (blk_lt HN.out)
      go_wp2_with (with_reducible refine at_ (o := ⟨some 45, _, _, _, _, _⟩) ?_)
      refine un (wpList_zeros (m := 472) rfl _ _ 51 3 rfl Try.underlying51 Try.underlying3 (.int .u8 0) 1 binfo rfl rfl (by decide) rfl HO4.out rfl (by omega) (fun r hr => ⟨Nat.le_trans HM.out.size hr, by have := HGL.out; omega⟩) ?_)
      intro v' w' ho' hm'
      go_frame
      go_wp2_with fail
      go_returns
      refine ⟨_, rfl, ?_, HM.out.trans hm' (fun r e hr => by have := e.1; omega)⟩
      rw [HSEC.out]
      unfold secL
      rw [u8s_append, show u8s (List.replicate 472 0) = List.replicate 472 (Value.int .u8 0) from by simp [u8s, SM.u8]]
      exact ho'.mono (fun r hr _ => hr.1)

set_option maxHeartbeats 1000000 in
/-- the document's master of the code's -/
theorem of_any (m : Mst) (w : World) : Calls Try.prog 28 #[mV m] w fun e w' => e = .returned (mV m) ∧ Mod none_ w w' := by
  unfold mV mCells
  go_enter Try.func28, Try.ntmps28
  go_wp2_with (with_reducible refine at_ (o := ⟨some 1, .box _ _, _, _, _, _⟩) ?_)
  refine un (wpList_box rfl 27 _ rfl _ rfl ?_)
  intro w1 g hb1 hm1 hs1
  have HM1 := Lib.hid hm1
  have HB1 := Lib.hid hb1
  clear hb1 hm1 hs1
  go_frame
  go_wp2_with (with_reducible refine at_ (o := ⟨some 2, _, _, _, _, _⟩) ?_)
  refine un (wpList_alloc rfl 64 rfl (mCells zeroM) (run_zeroR _) ?_)
  intro w2 g2 hb2 hm2 hs2
  obtain ⟨c0, c1, c2, c3⟩ := MstAt.of (m := m) (hm2.get HB1.out (fun e => e))
  have HM2 := Lib.hid (HM1.out.trans' hm2)
  have HB2 := Lib.hid hb2
  have HG2 := Lib.hid (Nat.le_trans HM1.out.size hs2)
  clear hb2 hm2 hs2
  go_frame
  go_wp2_with (with_reducible refine at_ (o := ⟨none, .store _ _ _, _, _, _, _⟩) ?_)
  refine un (wpList_store rfl 64 _ _ rfl g2 rfl [.int .i64 m.seq, .int .i64 m.turn, .int .i64 m.oldest, .int .i64 m.mark] rfl _ _ HB2.out (mCells_size zeroM) (by rw [rmst_size]; rfl) (mCells_one m) ?_)
  intro w3 hb3 hm3
  have HB3 := Lib.hid hb3
  have HM3 := Lib.hid (show Mod none_ w w3 from HM2.out.trans hm3 (fun r e hr => by have := HG2.out; omega))
  clear hb3 hm3 c0 c1 c2 c3
  go_frame
  go_wp2_with fail
  (try simp only [Exit.inBlock, Exit.then])
  refine bodyPost_ret (results_cell_row rfl _ _ g2 _ _ (0, 0) _ rfl HB3.out Try.underlying64 rfl (by rw [rmst_size]; rfl)) rfl ?_
  exact ⟨rfl, HM3.out⟩

end Go.Proofs.Ythkbnhoebijdoaa
