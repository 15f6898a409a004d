/-
  Lists of bytes that lie apart: storemankit.ApartBytes.
-/
import Derived.Test.YthbicfbhghcmkaaGreatFlatB
import Derived.Test.YthbicfbhghcmkaaGreatFlatN
namespace Go.Proofs.YthbicfbhghcmkaaGreat
open Go Go.RowKit Go.SM

def bagC (v : Value) : Array Value := #[.slice none 0 0, .slice none 0 0, .slice none 0 0, .slice none 0 0, v, .slice none 0 0, .slice none 0 0, .slice none 0 0, .slice none 0 0, .slice none 0 0, .slice none 0 0, .slice none 0 0, .slice none 0 0, .slice none 0 0, .slice none 0 0, .slice none 0 0, .slice none 0 0, .slice none 0 0, .slice none 0 0, .slice none 0 0, .slice none 0 0, .slice none 0 0, .slice none 0 0]

theorem eltBB : Elt Tryz.prog 44 37 1 24 := Elt.mk' (.slice none 0 0) Tryz.underlying44 (by kernel_rfl) rfl (by decide)

structure BagIs (w : World) (gb B : Nat) (n : Nat) (xs : List Value) (v : Value) : Prop where
  row : w.heap[gb]? = some (.cells (bagC v) 92 (0, 0))
  own : OwnS w (fun b => B ≤ b ∧ b ≠ gb) 37 1 v n xs

theorem BagIs.keep {w w' : World} {S : Nat → Prop} {gb B n : Nat} {xs : List Value} {v : Value} (h : BagIs w gb B n xs v) (hm : Mod S w w') (hS : ∀ b, B ≤ b → b < w.heap.size → ¬ S b) (hB : B ≤ gb) : BagIs w' gb B n xs v :=
  ⟨hm.get h.row (hS gb hB (blk_lt h.row)), h.own.keep hm (fun b hb => hS b hb.1)⟩

set_option maxHeartbeats 2000000 in
set_option maxRecDepth 100000 in
theorem put_bytes {w : World} {gb B n : Nat} {xs : List Value} {v : Value} (h : BagIs w gb B n xs v) (A : Option Addr) (m c : Nat) (hB : B ≤ gb) (hn : n ≤ 1000) :
    Calls Tryz.prog 38 #[.pointer (some ⟨gb, 0, none⟩), .slice A m c] w fun e w' => e = .returned (.tuple #[]) ∧ (∃ v', BagIs w' gb B (n + 1) (xs ++ [.slice A m c]) v') ∧ Mod (fun b => B ≤ b) w w' := by
  have hgb := blk_lt h.row
  have q : w.cell? ⟨gb, 4, none⟩ = some v := by rw [cell_of_row w gb 4 _ _ _ h.row]; rfl
  have H := Lib.hid h
  clear h
  go_enter Tryz.func38, Tryz.ntmps38
  go_wp2_with (with_reducible refine at_ (o := ⟨some 11, _, _, _, _, _⟩) ?_)
  have hma := (Mod.refl none_ w).alloc (.cells #[.slice A m c] 37)
  have HRA := Lib.hid (show Rd (w.alloc (.cells #[.slice A m c] 37)) (Fr w) 1 (.slice (some ⟨w.heap.size, 0, none⟩) 1 1) 1 [.slice A m c] from
    ⟨_, _, rfl, Nat.le_refl _, rfl, fun _ => ⟨_, _, rfl, Nat.le_refl _, by simp, block_cells (xs := [.slice A m c]) (heap_alloc_new w _)⟩⟩)
  have HA := Lib.hid (H.out.keep hma (fun _ _ _ e => e) hB)
  have HMA := Lib.hid hma
  have hsa := hma.size
  clear hma
  refine un (wpList_append rfl _ _ 44 rfl eltBB rfl HA.out.own rfl HRA.out (by intro u hu; simp only [List.mem_singleton] at hu; subst hu; rfl) (by omega) (by omega) (fun b hb => ⟨by omega, by omega⟩) ?_)
  intro v1 w1 ho1 hm1
  obtain ⟨A1, c1, rfl⟩ := ho1.rd.slice
  have hrw : w1.heap[gb]? = some (.cells (bagC v) 92 (0, 0)) := hm1.get HA.out.row (fun e => e.2 rfl)
  have p1 : w1.cell? ⟨gb, 4, none⟩ = some v := by rw [cell_of_row w1 gb 4 _ _ _ hrw]; rfl
  have f1 : w1.frozen? ⟨gb, 4, none⟩ = false := frozen_of_row w1 gb 4 _ _ hrw
  have hms : Mod (· = gb) w1 (w1.setCell ⟨gb, 4, none⟩ (.slice A1 (n + 1) c1)) := (Mod.refl (· = gb) w1).setCell (p := ⟨gb, 4, none⟩) (.inl rfl) _
  have HF := Lib.hid (show BagIs (w1.setCell ⟨gb, 4, none⟩ (.slice A1 (n + 1) c1)) gb B (n + 1) (xs ++ [.slice A m c]) (.slice A1 (n + 1) c1) from
    ⟨heap_setCell_same w1 gb 4 _ _ _ hrw, ho1.keep hms (fun b hb _ e => hb.2 e)⟩)
  have HM := Lib.hid (show Mod (fun b => B ≤ b) w (w1.setCell ⟨gb, 4, none⟩ (.slice A1 (n + 1) c1)) from ((HMA.out.mono (fun _ _ e => e.elim)).trans' (hm1.mono (fun _ _ e => e.1))).trans' (hms.mono (fun b _ e => by subst e; exact hB)))
  clear hrw hms ho1 hm1 q hsa
  go_frame
  go_wp2_with fail
  go_end0
  exact ⟨rfl, ⟨_, HF.out⟩, HM.out⟩

set_option maxHeartbeats 8000000 in
set_option maxRecDepth 100000 in
theorem bag_apart {w : World} {gb B : Nat} {v : Value} {vs : List Value} {n : Nat → Nat} {c : Nat → List UInt8} (h : BagIs w gb B vs.length vs v) (hB : B ≤ gb) (ho : Own1 w vs n c) (hlt : ∀ b, OwnV vs b → b < B) (ha : Apt vs) (hN : vs.length ≤ 400) (hn : ∀ k, k < vs.length → n k ≤ 70368744177664) :
    Calls Tryz.prog 39 #[.pointer (some ⟨gb, 0, none⟩)] w fun e w' => e = .returned (.bool true) ∧ Mod (OwnV vs) w w' := by
  have H := Lib.hid h
  have HO := Lib.hid ho
  have HLT := Lib.hid hlt
  have HA := Lib.hid ha
  have Hn := Lib.hid hn
  clear h ho hlt ha hn
  go_enter Tryz.func39, Tryz.ntmps39

  have q0 : w.cell? ⟨gb, 0, none⟩ = some (.slice none 0 0) := by rw [cell_of_row w gb 0 _ _ _ H.out.row]; rfl
  go_wp2_with fail
  refine (flat0_Words _).mono ?_
  rintro e w1 ⟨rfl, hm⟩
  have M1 := Lib.hid hm
  have H1 := Lib.hid (H.out.keep hm (fun _ _ _ e => e) hB)
  clear hm q0
  have q1 : w1.cell? ⟨gb, 1, none⟩ = some (.slice none 0 0) := by rw [cell_of_row w1 gb 1 _ _ _ H1.out.row]; rfl
  go_wp2_with fail
  refine (flat0_Ints _).mono ?_
  rintro e w2 ⟨rfl, hm⟩
  have M2 := Lib.hid (M1.out.trans' hm)
  have H2 := Lib.hid (H1.out.keep hm (fun _ _ _ e => e) hB)
  clear hm q1 H1 M1
  have q2 : w2.cell? ⟨gb, 2, none⟩ = some (.slice none 0 0) := by rw [cell_of_row w2 gb 2 _ _ _ H2.out.row]; rfl
  go_wp2_with fail
  refine (flat0_Longs _).mono ?_
  rintro e w3 ⟨rfl, hm⟩
  have M3 := Lib.hid (M2.out.trans' hm)
  have H3 := Lib.hid (H2.out.keep hm (fun _ _ _ e => e) hB)
  clear hm q2 H2 M2
  have q3 : w3.cell? ⟨gb, 3, none⟩ = some (.slice none 0 0) := by rw [cell_of_row w3 gb 3 _ _ _ H3.out.row]; rfl
  go_wp2_with fail
  refine (flat0_Texts _).mono ?_
  rintro e w4 ⟨rfl, hm⟩
  have M4 := Lib.hid (M3.out.trans' hm)
  have H4 := Lib.hid (H3.out.keep hm (fun _ _ _ e => e) hB)
  clear hm q3 H3 M3
  have q4 : w4.cell? ⟨gb, 4, none⟩ = some (v) := by rw [cell_of_row w4 gb 4 _ _ _ H4.out.row]; rfl
  go_wp2_with fail
  refine (flatB_any (Dl := fun b => B ≤ b ∧ b ≠ gb) H4.out.own.rd (fun b hb e => by have := HLT.out b e; omega) (HO.out.keep M4.out (fun _ _ e => e)) HA.out hN Hn.out).mono ?_
  rintro e w5 ⟨rfl, hm⟩
  have M5 := Lib.hid ((M4.out.mono (S' := OwnV vs) (fun _ _ e => e.elim)).trans' hm)
  have H5 := Lib.hid (H4.out.keep hm (fun b hb _ e => by have := HLT.out b e; omega) hB)
  clear hm q4 H4 M4
  have q5 : w5.cell? ⟨gb, 5, none⟩ = some (.slice none 0 0) := by rw [cell_of_row w5 gb 5 _ _ _ H5.out.row]; rfl
  go_wp2_with fail
  refine (flat0_Windows _).mono ?_
  rintro e w6 ⟨rfl, hm⟩
  have M6 := Lib.hid (M5.out.trans' (hm.mono (fun _ _ e => e.elim)))
  have H6 := Lib.hid (H5.out.keep hm (fun _ _ _ e => e) hB)
  clear hm q5 H5 M5
  have q6 : w6.cell? ⟨gb, 6, none⟩ = some (.slice none 0 0) := by rw [cell_of_row w6 gb 6 _ _ _ H6.out.row]; rfl
  go_wp2_with fail
  refine (flat0_Lots _).mono ?_
  rintro e w7 ⟨rfl, hm⟩
  have M7 := Lib.hid (M6.out.trans' (hm.mono (fun _ _ e => e.elim)))
  have H7 := Lib.hid (H6.out.keep hm (fun _ _ _ e => e) hB)
  clear hm q6 H6 M6
  have q7 : w7.cell? ⟨gb, 7, none⟩ = some (.slice none 0 0) := by rw [cell_of_row w7 gb 7 _ _ _ H7.out.row]; rfl
  go_wp2_with fail
  refine (flat0_Wants _).mono ?_
  rintro e w8 ⟨rfl, hm⟩
  have M8 := Lib.hid (M7.out.trans' (hm.mono (fun _ _ e => e.elim)))
  have H8 := Lib.hid (H7.out.keep hm (fun _ _ _ e => e) hB)
  clear hm q7 H7 M7
  have q8 : w8.cell? ⟨gb, 8, none⟩ = some (.slice none 0 0) := by rw [cell_of_row w8 gb 8 _ _ _ H8.out.row]; rfl
  go_wp2_with fail
  refine (flat0_Uses _).mono ?_
  rintro e w9 ⟨rfl, hm⟩
  have M9 := Lib.hid (M8.out.trans' (hm.mono (fun _ _ e => e.elim)))
  have H9 := Lib.hid (H8.out.keep hm (fun _ _ _ e => e) hB)
  clear hm q8 H8 M8
  have q9 : w9.cell? ⟨gb, 9, none⟩ = some (.slice none 0 0) := by rw [cell_of_row w9 gb 9 _ _ _ H9.out.row]; rfl
  go_wp2_with fail
  refine (flat0_Parts _).mono ?_
  rintro e w10 ⟨rfl, hm⟩
  have M10 := Lib.hid (M9.out.trans' (hm.mono (fun _ _ e => e.elim)))
  have H10 := Lib.hid (H9.out.keep hm (fun _ _ _ e => e) hB)
  clear hm q9 H9 M9
  have q10 : w10.cell? ⟨gb, 10, none⟩ = some (.slice none 0 0) := by rw [cell_of_row w10 gb 10 _ _ _ H10.out.row]; rfl
  go_wp2_with fail
  refine (flat0_Items _).mono ?_
  rintro e w11 ⟨rfl, hm⟩
  have M11 := Lib.hid (M10.out.trans' (hm.mono (fun _ _ e => e.elim)))
  have H11 := Lib.hid (H10.out.keep hm (fun _ _ _ e => e) hB)
  clear hm q10 H10 M10
  have q11 : w11.cell? ⟨gb, 11, none⟩ = some (.slice none 0 0) := by rw [cell_of_row w11 gb 11 _ _ _ H11.out.row]; rfl
  go_wp2_with fail
  refine (flat0_Lines _).mono ?_
  rintro e w12 ⟨rfl, hm⟩
  have M12 := Lib.hid (M11.out.trans' (hm.mono (fun _ _ e => e.elim)))
  have H12 := Lib.hid (H11.out.keep hm (fun _ _ _ e => e) hB)
  clear hm q11 H11 M11
  have q12 : w12.cell? ⟨gb, 12, none⟩ = some (.slice none 0 0) := by rw [cell_of_row w12 gb 12 _ _ _ H12.out.row]; rfl
  go_wp2_with fail
  refine (flat0_Asks _).mono ?_
  rintro e w13 ⟨rfl, hm⟩
  have M13 := Lib.hid (M12.out.trans' (hm.mono (fun _ _ e => e.elim)))
  have H13 := Lib.hid (H12.out.keep hm (fun _ _ _ e => e) hB)
  clear hm q12 H12 M12
  have q13 : w13.cell? ⟨gb, 13, none⟩ = some (.slice none 0 0) := by rw [cell_of_row w13 gb 13 _ _ _ H13.out.row]; rfl
  go_wp2_with fail
  refine (flat0_Tells _).mono ?_
  rintro e w14 ⟨rfl, hm⟩
  have M14 := Lib.hid (M13.out.trans' (hm.mono (fun _ _ e => e.elim)))
  have H14 := Lib.hid (H13.out.keep hm (fun _ _ _ e => e) hB)
  clear hm q13 H13 M13
  have q14 : w14.cell? ⟨gb, 14, none⟩ = some (.slice none 0 0) := by rw [cell_of_row w14 gb 14 _ _ _ H14.out.row]; rfl
  go_wp2_with fail
  refine (flat0_States _).mono ?_
  rintro e w15 ⟨rfl, hm⟩
  have M15 := Lib.hid (M14.out.trans' (hm.mono (fun _ _ e => e.elim)))
  have H15 := Lib.hid (H14.out.keep hm (fun _ _ _ e => e) hB)
  clear hm q14 H14 M14
  have q15 : w15.cell? ⟨gb, 15, none⟩ = some (.slice none 0 0) := by rw [cell_of_row w15 gb 15 _ _ _ H15.out.row]; rfl
  go_wp2_with fail
  refine (flat0_Rows _).mono ?_
  rintro e w16 ⟨rfl, hm⟩
  have M16 := Lib.hid (M15.out.trans' (hm.mono (fun _ _ e => e.elim)))
  have H16 := Lib.hid (H15.out.keep hm (fun _ _ _ e => e) hB)
  clear hm q15 H15 M15
  have q16 : w16.cell? ⟨gb, 16, none⟩ = some (.slice none 0 0) := by rw [cell_of_row w16 gb 16 _ _ _ H16.out.row]; rfl
  go_wp2_with fail
  refine (flat0_Turns _).mono ?_
  rintro e w17 ⟨rfl, hm⟩
  have M17 := Lib.hid (M16.out.trans' (hm.mono (fun _ _ e => e.elim)))
  have H17 := Lib.hid (H16.out.keep hm (fun _ _ _ e => e) hB)
  clear hm q16 H16 M16
  have q17 : w17.cell? ⟨gb, 17, none⟩ = some (.slice none 0 0) := by rw [cell_of_row w17 gb 17 _ _ _ H17.out.row]; rfl
  go_wp2_with fail
  refine (flat0_Fates _).mono ?_
  rintro e w18 ⟨rfl, hm⟩
  have M18 := Lib.hid (M17.out.trans' (hm.mono (fun _ _ e => e.elim)))
  have H18 := Lib.hid (H17.out.keep hm (fun _ _ _ e => e) hB)
  clear hm q17 H17 M17
  have q18 : w18.cell? ⟨gb, 18, none⟩ = some (.slice none 0 0) := by rw [cell_of_row w18 gb 18 _ _ _ H18.out.row]; rfl
  go_wp2_with fail
  refine (flat0_Dirties _).mono ?_
  rintro e w19 ⟨rfl, hm⟩
  have M19 := Lib.hid (M18.out.trans' (hm.mono (fun _ _ e => e.elim)))
  have H19 := Lib.hid (H18.out.keep hm (fun _ _ _ e => e) hB)
  clear hm q18 H18 M18
  have q19 : w19.cell? ⟨gb, 19, none⟩ = some (.slice none 0 0) := by rw [cell_of_row w19 gb 19 _ _ _ H19.out.row]; rfl
  go_wp2_with fail
  refine (flat0_Opens _).mono ?_
  rintro e w20 ⟨rfl, hm⟩
  have M20 := Lib.hid (M19.out.trans' (hm.mono (fun _ _ e => e.elim)))
  have H20 := Lib.hid (H19.out.keep hm (fun _ _ _ e => e) hB)
  clear hm q19 H19 M19
  have q20 : w20.cell? ⟨gb, 20, none⟩ = some (.slice none 0 0) := by rw [cell_of_row w20 gb 20 _ _ _ H20.out.row]; rfl
  go_wp2_with fail
  refine (flat0_Records _).mono ?_
  rintro e w21 ⟨rfl, hm⟩
  have M21 := Lib.hid (M20.out.trans' (hm.mono (fun _ _ e => e.elim)))
  have H21 := Lib.hid (H20.out.keep hm (fun _ _ _ e => e) hB)
  clear hm q20 H20 M20
  have q21 : w21.cell? ⟨gb, 21, none⟩ = some (.slice none 0 0) := by rw [cell_of_row w21 gb 21 _ _ _ H21.out.row]; rfl
  go_wp2_with fail
  refine (flat0_Steps _).mono ?_
  rintro e w22 ⟨rfl, hm⟩
  have M22 := Lib.hid (M21.out.trans' (hm.mono (fun _ _ e => e.elim)))
  have H22 := Lib.hid (H21.out.keep hm (fun _ _ _ e => e) hB)
  clear hm q21 H21 M21
  have q22 : w22.cell? ⟨gb, 22, none⟩ = some (.slice none 0 0) := by rw [cell_of_row w22 gb 22 _ _ _ H22.out.row]; rfl
  go_wp2_with fail
  refine (flat0_Tales _).mono ?_
  rintro e w23 ⟨rfl, hm⟩
  have M23 := Lib.hid (M22.out.trans' (hm.mono (fun _ _ e => e.elim)))
  have H23 := Lib.hid (H22.out.keep hm (fun _ _ _ e => e) hB)
  clear hm q22 H22 M22
  go_wp2_with fail
  go_ret
  exact ⟨rfl, M23.out⟩


theorem bag_one {vs : List Value} {n : Nat → Nat} {c : Nat → List UInt8} {w : World} (ho : Own1 w vs n c) {k : Nat} (hk : k < vs.length) : ∃ A c, vs[k] = .slice A (n k) c := (ho k hk).rd.slice

set_option maxHeartbeats 4000000 in
set_option maxRecDepth 100000 in
theorem apartB_any {w : World} {Dl : Nat → Prop} {lsv : Value} {vs : List Value} {n : Nat → Nat} {c : Nat → List UInt8} (hl : Rd w Dl 1 lsv vs.length vs) (ho : Own1 w vs n c) (ha : Apt vs) (hN : vs.length ≤ 400) (hn : ∀ k, k < vs.length → n k ≤ 70368744177664) :
    Calls Tryz.prog 16 #[lsv] w fun e w' => e = .returned (.bool true) ∧ Mod (OwnV vs) w w' := by
  obtain ⟨A, cl, rfl⟩ := hl.slice
  have HL := Lib.hid hl
  have HO := Lib.hid ho
  have HA := Lib.hid ha
  have Hn := Lib.hid hn
  clear hl ho ha hn
  go_enter Tryz.func16, Tryz.ntmps16
  go_wp2_with (with_reducible refine at_ (o := ⟨some 6, .box _ _, _, _, _, _⟩) ?_)
  refine un (wpList_box rfl 92 _ rfl (bagC (.slice none 0 0)) rfl ?_)
  intro w1 gb hb1 hm1 hs1
  have HB1 := Lib.hid (show BagIs w1 gb w.heap.size 0 [] (.slice none 0 0) from ⟨hb1, OwnS.nil_ _ _ _ _⟩)
  have HM1 := Lib.hid hm1
  clear hb1 hm1
  go_frame
  go_wp2_with fail
  go_loopw [4] (fun s wr => ∃ (k : Nat) (v : Value), s = .int .i64 k ∧ k ≤ vs.length ∧ BagIs wr gb w.heap.size k (vs.take k) v ∧ Mod none_ w wr) (fun s _ => vs.length - (intOf s).toNat)
  case atStart => exact ⟨0, _, rfl, Nat.zero_le _, HB1.out, HM1.out⟩
  case round =>
    obtain ⟨k, v, rfl, hk, hb, hm⟩ := hrel
    have HB := Lib.hid hb
    have HM := Lib.hid hm
    clear hb hm HB1 HM1
    by_cases hlt : k < vs.length
    · obtain ⟨gl, ol, cl', he, hcl, hDl, hbl, hcell⟩ := (HL.out.keep HM.out (fun _ _ _ e => e)).form (by omega)
      simp only [Value.slice.injEq] at he
      obtain ⟨rfl, _, rfl⟩ := he
      have q0 := hcell k vs[k] (List.getElem?_eq_getElem hlt)
      obtain ⟨Ak, ck, hvk⟩ := bag_one HO.out hlt
      rw [hvk] at q0
      have d1 : decide ((k : Int) < (vs.length : Int)) = true := by simpa using hlt
      have e1 : (k : Int) < (vs.length : Int) := by omega
      have hk4 : k < 400 := by omega
      have HV := Lib.hid hvk
      clear hcell hDl hbl hvk
      go_wp2_with fail
      refine (put_bytes HB.out Ak (n k) ck hs1 (by omega)).mono ?_
      rintro e w2 ⟨rfl, ⟨v2, hb2⟩, hm2⟩
      have HB2 := Lib.hid (show BagIs w2 gb w.heap.size (k + 1) (vs.take (k + 1)) v2 by
        rw [List.take_succ_eq_append_getElem hlt, HV.out]
        exact hb2)
      have HM2 := Lib.hid (HM.out.trans hm2 (fun b e hb => by omega))
      clear hb2 hm2
      go_wp2_with fail
      exact ⟨⟨k + 1, _, by go_num, by omega, HB2.out, HM2.out⟩, by simp [intOf] <;> omega⟩
    · have d1 : decide ((k : Int) < (vs.length : Int)) = false := by simpa using hlt
      have e1 : ¬ (k : Int) < (vs.length : Int) := by omega
      obtain rfl : k = vs.length := by omega
      have HB2 := Lib.hid (show BagIs wr gb w.heap.size vs.length vs v by
        have h := HB.out
        rwa [List.take_length] at h)
      clear HB
      go_wp2_with fail
      refine (bag_apart HB2.out hs1 (HO.out.keep HM.out (fun _ _ e => e)) (fun b hb => HO.out.lt b hb) HA.out hN Hn.out).mono ?_
      rintro e w3 ⟨rfl, hm3⟩
      have HM3 := Lib.hid ((HM.out.mono (S' := OwnV vs) (fun _ _ e => e.elim)).trans' hm3)
      clear hm3
      go_wp2_with fail
      go_ret
      exact ⟨rfl, HM3.out⟩

end Go.Proofs.YthbicfbhghcmkaaGreat
