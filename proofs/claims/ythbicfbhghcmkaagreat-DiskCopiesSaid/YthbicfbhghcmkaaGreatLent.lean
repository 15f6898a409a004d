/-
  Bytes that are lent: storemankit.LentBytes, KeptBytes, OverBytes.
-/
import Derived.Test.YthbicfbhghcmkaaGreatBoth
import Derived.BigRegion
import Derived.BigQuiet
import Derived.IntWalk
import Derived.StillTailTactics
import Derived.Deep.RegionHeld3
namespace Go.Proofs.YthbicfbhghcmkaaGreat
open Go Go.RowKit Go.SM

theorem mark_any (k i : Int) (w : World) (hk : 0 ≤ k ∧ k ≤ 1000) (hi : 0 ≤ i ∧ i ≤ 4611686018427387904) :
    Calls Tryz.prog 68 #[.int .i64 k, .int .i64 i] w fun e w' => e = .returned (.int .i64 (1000003 * (k + 7) + i)) ∧ w = w' := by
  have h1 : IntKind.i64.wrap (k + 7) = k + 7 := IntWalk.i64_in _ (by omega)
  have h2 : IntKind.i64.wrap (1000003 * (k + 7)) = 1000003 * (k + 7) := IntWalk.i64_in _ (by omega)
  have h3 : IntKind.i64.wrap (1000003 * (k + 7) + i) = 1000003 * (k + 7) + i := IntWalk.i64_in _ (by omega)
  go_enter Tryz.func68, Tryz.ntmps68
  go_wp2_with fail
  go_ret
  exact ⟨rfl, rfl⟩

/-- the byte that marks a place -/
def mB (k i : Int) : UInt8 := UInt8.ofNat (IntKind.u64.wrap (IntKind.u64.wrap (1000003 * (k + 7) + i) * 11400714819323198485) / 72057594037927936 % 256).toNat
theorem mB_eq (k i : Int) : ((mB k i).toNat : Int) = IntKind.u64.wrap (IntKind.u64.wrap (1000003 * (k + 7) + i) * 11400714819323198485) / 72057594037927936 % 256 := by
  unfold mB
  generalize IntKind.u64.wrap (IntKind.u64.wrap (1000003 * (k + 7) + i) * 11400714819323198485) / 72057594037927936 = x
  rw [UInt8.toNat_ofNat']
  omega

theorem markB_any (k i : Int) (w : World) (hk : 0 ≤ k ∧ k ≤ 1000) (hi : 0 ≤ i ∧ i ≤ 4611686018427387904) :
    Calls Tryz.prog 41 #[.int .i64 k, .int .i64 i] w fun e w' => e = .returned (.int .u8 ((mB k i).toNat : Int)) ∧ w = w' := by
  have HB := Lib.hid (mB_eq k i)
  go_enter Tryz.func41, Tryz.ntmps41
  go_wp2_with fail
  refine (mark_any k i _ hk hi).mono ?_
  rintro e w' ⟨rfl, rfl⟩
  obtain ⟨z, hz⟩ : ∃ z, 1000003 * (k + 7) + i = z := ⟨_, rfl⟩
  have hb := HB.out
  rw [hz] at hb ⊢
  have HZ := Lib.hid hb
  clear hz hb HB
  go_wp2_with fail
  go_ret
  exact ⟨by rw [HZ.out]; rfl, rfl⟩

/-- the marks behind -/
def marksB (k : Int) (n : Nat) : List UInt8 := (List.range n).map fun i : Nat => mB k i
theorem marksB_len (k : Int) (n : Nat) : (marksB k n).length = n := by simp [marksB]
theorem marksB_succ (k : Int) (n : Nat) : marksB k (n + 1) = marksB k n ++ [mB k n] := by simp [marksB, List.range_succ]
theorem marksB_get (k : Int) (n i : Nat) (h : i < n) : (marksB k n)[i]'(by rw [marksB_len]; exact h) = mB k i := by simp [marksB]

theorem OwnS_cap {w : World} {D : Nat → Prop} {e : TypeId} {sz n g c : Nat} {xs : List Value} (h : OwnS w D e sz (.slice (some ⟨g, 0, none⟩) n c) n xs) : n ≤ c := by
  obtain ⟨A, c', he, hn, _⟩ := h.rd
  cases he
  exact hn


set_option maxHeartbeats 2000000 in
theorem lent_any {w : World} {D : Nat → Prop} {v : Value} {l : List UInt8} (hx : Rd w D 1 v l.length (u8s l)) (hl : l.length ≤ 70368744177664) :
    Calls Tryz.prog 22 #[v] w fun e w' => ∃ g c, e = .returned (.slice (some ⟨g, 0, none⟩) l.length c) ∧ OwnS w' (Fr w) 5 1 (.slice (some ⟨g, 0, none⟩) (l.length + 12) c) (l.length + 12) (u8s (l ++ marksB 1 12)) ∧ Mod none_ w w' := by
  have HX := Lib.hid hx
  have HL := Lib.hid hl
  obtain ⟨A, c, rfl⟩ := hx.slice
  clear hx hl
  go_enter Tryz.func22, Tryz.ntmps22
  have hw1 : IntKind.i64.wrap ((l.length : Int) + 12) = ((l.length + 12 : Nat) : Int) := by rw [IntWalk.i64_in _ (by have := HL.out; omega)]; omega
  go_wp2_with (with_reducible refine at_ (o := ⟨some 8, .makeSlice _ _ _, _, _, _, _⟩) ?_)
  refine un (wpListG_make (by first | rfl | kernel_rfl | simp [Region.wanted]) 37 _ _ rfl 5 (.int .u8 0) 1 Tryz.underlying37 binfo rfl .i64 .i64 0 (l.length + 12) rfl (by rfl) (by omega) (by have := HL.out; omega) (by have := HL.out; omega) ?_)
  intro w1 g1 hb1 hm1 hs1
  have HM1 := Lib.hid hm1
  have HO1 := Lib.hid (show OwnS w1 (Fr w) 5 1 (.slice (some ⟨g1, 0, none⟩) 0 (l.length + 12)) 0 (u8s []) from ⟨⟨rfl, .inr ⟨g1, _, _, rfl, Nat.zero_le _, hb1, Nat.zero_le _, by have := HL.out; simp only [maxLen]; omega, by simp, rfl⟩⟩, fun g' hg' => by simp [Value.ownBlock] at hg'; subst hg'; exact hs1⟩)
  have HX1 := Lib.hid (HX.out.keep hm1 (fun _ _ _ e => e))
  clear hb1 hm1 hs1 HX hw1
  go_frame
  go_wp2_with (with_reducible refine at_ (o := ⟨some 11, _, _, _, _, _⟩) ?_)
  refine un (wpList_append rfl _ _ 37 rfl eltB rfl HO1.out rfl HX1.out (u8s_one _) (by have := HL.out; omega) (by have := HL.out; omega) (Fr.of HM1.out.size) ?_)
  intro v2 w2 ho2 hm2
  have HO2 := Lib.hid (show OwnS w2 (Fr w) 5 1 v2 (l.length + 0) (u8s (l ++ marksB 1 0)) by
    rw [show l ++ marksB 1 0 = l from by simp [marksB], Nat.add_zero, ← Nat.zero_add l.length]
    exact ho2)
  have HM2 := Lib.hid (HM1.out.trans hm2 (fun r e hr => by unfold Fr at e; omega))
  clear ho2 hm2 HO1 HX1 HM1
  go_frame
  go_wp2_with fail
  go_loopw [3, 4] (fun o i wr => ∃ (j : Nat) (v : Value), i = .int .i64 j ∧ o = v ∧ j ≤ 12 ∧ OwnS wr (Fr w) 5 1 v (l.length + j) (u8s (l ++ marksB 1 j)) ∧ Mod none_ w wr) (fun _ i _ => 12 - (intOf i).toNat)
  case atStart => exact ⟨0, _, rfl, rfl, by omega, HO2.out, HM2.out⟩
  case round =>
    obtain ⟨j, v, rfl, rfl, hj, ho, hm⟩ := hrel
    have HO := Lib.hid ho
    have HM := Lib.hid hm
    clear ho hm HO2 HM2
    by_cases hj12 : j < 12
    · have d1 : decide ((j : Int) < 12) = true := by simp; omega
      have d4 : (j : Int) < 12 := by omega
      go_wp2_with fail
      refine (markB_any 1 j _ (by omega) (by omega)).mono ?_
      rintro e w' ⟨rfl, rfl⟩
      obtain ⟨c, hc⟩ : ∃ c, mB 1 j = c := ⟨_, rfl⟩
      have HC := Lib.hid hc
      rw [hc]
      clear hc
      go_wp2_with (with_reducible refine at_ (o := ⟨some 20, _, _, _, _, _⟩) ?_)
      have hma := (Mod.refl none_ wr).alloc (.cells #[.int .u8 (c.toNat : Int)] 5)
      have HRA := Lib.hid (show Rd (wr.alloc (.cells #[.int .u8 (c.toNat : Int)] 5)) (Fr wr) 1 (.slice (some ⟨wr.heap.size, 0, none⟩) 1 1) 1 (u8s [c]) from
        ⟨_, _, rfl, Nat.le_refl _, rfl, fun _ => ⟨_, _, rfl, Nat.le_refl _, by simp, block_cells (xs := u8s [c]) (heap_alloc_new wr _)⟩⟩)
      have HOA := Lib.hid (HO.out.keep hma (fun _ _ _ e => e))
      have HMA := Lib.hid (HM.out.trans' hma)
      clear hma
      refine un (wpList_append rfl _ _ 37 rfl eltB rfl HOA.out rfl HRA.out (u8s_one _) (by have := HL.out; omega) (by have := HL.out; omega) (Fr.of HMA.out.size) ?_)
      intro v7 w7 ho7 hm7
      have HO7 := Lib.hid (show OwnS w7 (Fr w) 5 1 v7 (l.length + (j + 1)) (u8s (l ++ marksB 1 (j + 1))) by
        rw [marksB_succ, ← List.append_assoc, u8s_append, HC.out]
        exact ho7)
      have HM7 := Lib.hid (HMA.out.trans hm7 (fun r e hr => by unfold Fr at e; omega))
      clear ho7 hm7
      go_frame
      go_wp2_with fail
      exact ⟨⟨j + 1, _, by go_num, rfl, by omega, HO7.out, HM7.out⟩, by simp [intOf] <;> omega⟩
    · obtain rfl : j = 12 := by omega
      obtain ⟨g, c, rfl, _, _⟩ := HO.out.form1 (by omega)
      have hc := OwnS_cap HO.out
      go_wp2_with fail
      go_ret
      exact ⟨g, c, rfl, HO.out, HM.out⟩

end Go.Proofs.YthbicfbhghcmkaaGreat
