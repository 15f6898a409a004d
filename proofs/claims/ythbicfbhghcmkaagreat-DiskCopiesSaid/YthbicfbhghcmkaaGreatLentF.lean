/-
  Fates that are lent: LentFates.
-/
import Derived.Test.YthbicfbhghcmkaaGreatLentO
import Derived.Handy
namespace Go.SM
open Go Go.RowKit
section
variable {P : Program} {w : World} {ops : Array Oper} {rest : List Oper} {o : Oper} {a : Act} {Q : Exit → Act → World → Prop}
/-- make([]T, n, cap), T a struct of one cell -/
theorem wpListG_make1 (hg : Region.wanted o (yielded ops a.tmps) = true) (t : TypeId) (l c : Operand) (hop : o.op = .makeSlice t l c) (e : TypeId) (z z1 : Value) (bytes : Nat) (ht : P.underlying t = some (.slice e)) (hi : (P.info? e).map (fun i => (i.zero, i.size, i.bytes)) = some (some z, 1, bytes))
    (hz : z.cells = #[z1]) (kl kc : IntKind) (n cap : Nat) (hl : a.eval l = .int kl (n : Int)) (hc : a.eval c = .int kc (cap : Int)) (hn : n ≤ cap) (hb : bytes * cap ≤ 281474976710656) (hm : cap ≤ 281474976710656)
    (h : ∀ w1 g, w1.heap[g]? = some (.cells (List.replicate cap z1).toArray e (0, 0)) → Mod none_ w w1 → w.heap.size ≤ g → wpList P ops Q rest (a.put o.dst (.slice (some ⟨g, 0, none⟩) n cap)) w1) :
    wpList P ops Q (o :: rest) a w := by
  obtain ⟨i, h1, h2, h3, h4⟩ := info_parts hi
  have hb' : (bytes : Int) * (cap : Int) ≤ 281474976710656 := by
    have : ((bytes * cap : Nat) : Int) ≤ 281474976710656 := by omega
    rwa [Int.natCast_mul] at this
  have hr := run_make (P := P) w t e i z ht h1 h2 kl kc (n : Int) (cap : Int) (by omega) (by omega) (by rw [h4]; exact hb') (by omega)
  simp only [Int.toNat_natCast, h3, Nat.mul_one] at hr
  have e1 : madeCells z.cells cap = (List.replicate cap z1).toArray := by
    rw [hz]
    apply Array.ext'
    rw [toList_madeCells_one]
  rw [e1] at hr
  exact wpListG_val (s := Instr.makeSlice t (a.eval l) (a.eval c)) hg (by unfold execOp; rw [hop]) (by rw [hl, hc]; exact hr) (h _ _ (heap_alloc_new w _) ((Mod.refl _ _).alloc _) (Nat.le_refl _))
end
end Go.SM

namespace Go.Proofs.YthbicfbhghcmkaaGreat
open Go Go.RowKit Go.SM

theorem markF_any (k i : Int) (w : World) (hk : 0 ≤ k ∧ k ≤ 1000) (hi : 0 ≤ i ∧ i ≤ 4611686018427387904) :
    Calls Tryz.prog 44 #[.int .i64 k, .int .i64 i] w fun e w' => e = .returned (.agg #[.int .i64 (1000003 * (k + 7) + i)]) ∧ Mod none_ w w' := by
  go_enter Tryz.func44, Tryz.ntmps44
  go_wp2_with fail
  refine (mark_any k i _ hk hi).mono ?_
  rintro e w' ⟨rfl, rfl⟩
  go_wp2_with fail
  have hm := (Mod.refl none_ w).alloc (.cells #[.int .i64 (1000003 * (k + 7) + i)] 56)
  have hc : (w.alloc (.cells #[.int .i64 (1000003 * (k + 7) + i)] 56)).cell? ⟨w.heap.size, 0, none⟩ = some (.int .i64 (1000003 * (k + 7) + i)) := by rw [cell_of_row _ _ 0 _ _ _ (heap_alloc_new w _)]; rfl
  go_returns
  exact ⟨rfl, hm⟩

theorem eltF : Elt Tryz.prog 29 56 1 8 := Elt.mk' (.agg #[.int .i64 0]) Tryz.underlying29 (by kernel_rfl) rfl (by decide)
theorem finfo3 : (Tryz.prog.info? 56).map (fun i => (i.zero, i.size, i.bytes)) = some (some (.agg #[.int .i64 0]), 1, 8) := by kernel_rfl
def marksF (k : Int) (n : Nat) : List Int := (List.range n).map fun i : Nat => 1000003 * (k + 7) + (i : Int)
theorem marksF_len (k : Int) (n : Nat) : (marksF k n).length = n := by simp [marksF]
theorem marksF_succ (k : Int) (n : Nat) : marksF k (n + 1) = marksF k n ++ [1000003 * (k + 7) + (n : Int)] := by simp [marksF, List.range_succ]
theorem marksF_get (k : Int) (n i : Nat) (h : i < n) : (marksF k n)[i]'(by rw [marksF_len]; exact h) = 1000003 * (k + 7) + (i : Int) := by simp [marksF]
theorem ints_app (l m : List Int) : ints (l ++ m) = ints l ++ ints m := by simp [ints]
theorem ints_one1 (l : List Int) : ∀ u ∈ ints l, u.oneCell' = true := by
  intro u hu
  simp only [ints, List.mem_map] at hu
  obtain ⟨x, _, rfl⟩ := hu
  rfl

set_option maxHeartbeats 2000000 in
theorem lentF_any {w : World} {D : Nat → Prop} {v : Value} {l : List Int} (hx : Rd w D 1 v l.length (ints l)) (hl : l.length ≤ 1000000) :
    Calls Tryz.prog 30 #[v] w fun e w' => ∃ g c, e = .returned (.slice (some ⟨g, 0, none⟩) l.length c) ∧ OwnS w' (Fr w) 56 1 (.slice (some ⟨g, 0, none⟩) (l.length + 12) c) (l.length + 12) (ints (l ++ marksF 1 12)) ∧ Mod none_ w w' := by
  have HX := Lib.hid hx
  have HL := Lib.hid hl
  obtain ⟨A, c, rfl⟩ := hx.slice
  clear hx hl
  go_enter Tryz.func30, Tryz.ntmps30
  have hw1 : IntKind.i64.wrap ((l.length : Int) + 12) = ((l.length + 12 : Nat) : Int) := by rw [IntWalk.i64_in _ (by have := HL.out; omega)]; omega
  go_wp2_with (with_reducible refine at_ (o := ⟨some 8, .makeSlice _ _ _, _, _, _, _⟩) ?_)
  refine un (wpListG_make1 (by first | rfl | kernel_rfl | simp [Region.wanted]) 29 _ _ rfl 56 (.agg #[.int .i64 0]) (.int .i64 0) 8 Tryz.underlying29 finfo3 rfl .i64 .i64 0 (l.length + 12) rfl (by rfl) (by omega) (by have := HL.out; omega) (by have := HL.out; omega) ?_)
  intro w1 g1 hb1 hm1 hs1
  have HM1 := Lib.hid hm1
  have HO1 := Lib.hid (show OwnS w1 (Fr w) 56 1 (.slice (some ⟨g1, 0, none⟩) 0 (l.length + 12)) 0 (ints []) from ⟨⟨rfl, .inr ⟨g1, _, _, rfl, Nat.zero_le _, hb1, Nat.zero_le _, by have := HL.out; simp only [maxLen]; omega, by simp, rfl⟩⟩, fun g' hg' => by simp [Value.ownBlock] at hg'; subst hg'; exact hs1⟩)
  have HX1 := Lib.hid (HX.out.keep hm1 (fun _ _ _ e => e))
  clear hb1 hm1 hs1 HX hw1
  go_frame
  go_wp2_with (with_reducible refine at_ (o := ⟨some 11, _, _, _, _, _⟩) ?_)
  refine un (wpList_append rfl _ _ 29 rfl eltF rfl HO1.out rfl HX1.out (ints_one1 _) (by have := HL.out; omega) (by have := HL.out; omega) (Fr.of HM1.out.size) ?_)
  intro v2 w2 ho2 hm2
  have HO2 := Lib.hid (show OwnS w2 (Fr w) 56 1 v2 (l.length + 0) (ints (l ++ marksF 1 0)) by
    rw [show l ++ marksF 1 0 = l from by simp [marksF], Nat.add_zero, ← Nat.zero_add l.length]
    exact ho2)
  have HM2 := Lib.hid (HM1.out.trans hm2 (fun r e hr => by unfold Fr at e; omega))
  clear ho2 hm2 HO1 HX1 HM1
  go_frame
  go_wp2_with fail
  go_loopw [3, 4] (fun o i wr => ∃ (j : Nat) (v : Value), i = .int .i64 j ∧ o = v ∧ j ≤ 12 ∧ OwnS wr (Fr w) 56 1 v (l.length + j) (ints (l ++ marksF 1 j)) ∧ Mod none_ w wr) (fun _ i _ => 12 - (intOf i).toNat)
  case atStart => exact ⟨0, _, rfl, rfl, by omega, HO2.out, HM2.out⟩
  case round =>
    obtain ⟨j, v, rfl, rfl, hj, ho, hm⟩ := hrel
    have HO := Lib.hid ho
    have HM := Lib.hid hm
    clear ho hm HO2 HM2
    by_cases hj12 : j < 12
    · have d1 : decide ((j : Int) < 12) = true := by simp; omega
      have d4 : (j : Int) < 12 := by omega
      go_wp2_with fail
      refine (markF_any 1 j _ (by omega) (by omega)).mono ?_
      rintro e w4 ⟨rfl, hm4⟩
      have HO4 := Lib.hid (HO.out.keep hm4 (fun _ _ _ e => e))
      have HM4 := Lib.hid (HM.out.trans' hm4)
      clear hm4 HO HM
      obtain ⟨c, hc⟩ : ∃ c, 1000003 * (1 + 7) + (j : Int) = c := ⟨_, rfl⟩
      have HC := Lib.hid hc
      rw [hc]
      clear hc
      go_wp2_with (with_reducible refine at_ (o := ⟨some 20, _, _, _, _, _⟩) ?_)
      have hma := (Mod.refl none_ w4).alloc (.cells #[.int .i64 c] 56)
      have HRA := Lib.hid (show Rd (w4.alloc (.cells #[.int .i64 c] 56)) (Fr w4) 1 (.slice (some ⟨w4.heap.size, 0, none⟩) 1 1) 1 (ints [c]) from
        ⟨_, _, rfl, Nat.le_refl _, rfl, fun _ => ⟨_, _, rfl, Nat.le_refl _, by simp, block_cells (xs := ints [c]) (heap_alloc_new w4 _)⟩⟩)
      have HOA := Lib.hid (HO4.out.keep hma (fun _ _ _ e => e))
      have HMA := Lib.hid (HM4.out.trans' hma)
      clear hma
      refine un (wpList_append rfl _ _ 29 rfl eltF rfl HOA.out rfl HRA.out (ints_one1 _) (by have := HL.out; omega) (by have := HL.out; omega) (Fr.of HMA.out.size) ?_)
      intro v7 w7 ho7 hm7
      have HO7 := Lib.hid (show OwnS w7 (Fr w) 56 1 v7 (l.length + (j + 1)) (ints (l ++ marksF 1 (j + 1))) by
        rw [marksF_succ, ← List.append_assoc, ints_app, HC.out]
        exact ho7)
      have HM7 := Lib.hid (HMA.out.trans hm7 (fun r e hr => by unfold Fr at e; omega))
      clear ho7 hm7
      go_frame
      go_wp2_with fail
      exact ⟨⟨j + 1, _, by go_num, rfl, by omega, HO7.out, HM7.out⟩, by simp [intOf] <;> omega⟩
    · obtain rfl : j = 12 := by omega
      obtain ⟨g, c, rfl, _, _⟩ := HO.out.form1 (by omega)
      have hc := OwnS_cap HO.out
      go_wp2_with fail
      go_ret
      exact ⟨g, c, rfl, HO.out, HM.out⟩

end Go.Proofs.YthbicfbhghcmkaaGreat
