/-
  Masters: the chapter's awake.
-/
import Derived.Test.YthkbnhoebijdoaaMarkF
namespace Go.Proofs.Ythkbnhoebijdoaa
open Go Go.RowKit Go.SM

set_option maxHeartbeats 4000000 in
set_option maxRecDepth 100000 in
theorem awake25 (w : World) : Calls Try.prog 11 #[] w fun e w' => e = .returned (.bool true) ∧ Mod none_ w w' := by
  obtain ⟨t1, f1, k1, n1, l1⟩ := fmT_calm (calm_new 40 (by omega)) (new_zs 40)
  obtain ⟨t2, f2, k2, n2, l2⟩ := mwT_calm k1 (m := twoM) (by decide)
  have hr := rd_two k2 (by rw [l2]; rfl) (by rw [l2, l1]; rfl)
  have hl0 : latS t2 0 = secM twoM := by rw [l2]; rfl
  have HF1 := Lib.hid f1
  have HF2 := Lib.hid f2
  have HRD := Lib.hid hr
  have HL0 := Lib.hid hl0
  have HN2 := Lib.hid (show t2.n = 40 from n2.trans n1)
  have HK2 := Lib.hid k2
  clear f1 f2 hr hl0 l1 l2 n1 n2 k1 k2
  go_enter Try.func11, Try.ntmps11
  go_wp2_with fail
  refine (lv_new w 40 ⟨by omega, by omega⟩ (Mod.refl _ _)).mono ?_
  rintro e w1 ⟨b, ms, mo, rfl, h1⟩
  have HL1 := Lib.hid h1
  clear h1
  go_wp2_with fail
  refine (mk_format HL1.out).mono ?_
  rintro e w2 ⟨rfl, h2, _⟩
  rw [HF1.out] at h2 ⊢
  have HL2 := Lib.hid h2
  clear h2
  go_wp2_with fail
  refine (show Calls Try.prog 13 #[.pointer (some ⟨b, 0, none⟩), mV twoM] _ _ from mk_write HL2.out twoM).mono ?_
  rintro e w3 ⟨rfl, h3, _⟩
  rw [HF2.out] at h3 ⊢
  have HL3 := Lib.hid h3
  clear h3
  go_wp2_with fail
  refine (mk_read HL3.out).mono ?_
  rintro e w4 ⟨rfl, h4, _⟩
  rw [HRD.out]
  have HL4 := Lib.hid h4
  clear h4
  go_wp2_with (with_reducible refine at_ (o := ⟨some 2, .alloc _, _, _, _, _⟩) ?_)
  refine un (wpList_alloc rfl 27 rfl (mCells zeroM) (run_zeroM _) ?_)
  intro w5 g hb5 hm5 hs5
  have HL5 := Lib.hid (HL4.out.keep hm5)
  have HB5 := Lib.hid hb5
  have HG := Lib.hid (show w.heap.size ≤ g ∧ ¬ dkOwn b ms mo g from ⟨Nat.le_trans HL4.out.mod.size hs5, fun e => by have := HL4.out.at_.own_lt g e; omega⟩)
  clear hb5 hm5 hs5
  go_frame
  go_wp2_with (with_reducible refine at_ (o := ⟨none, .store _ _ _, _, _, _, _⟩) ?_)
  refine un (wpList_store rfl 27 _ _ rfl g rfl [.int .i64 2, .int .i64 5, .int .i64 7, .int .i64 0] rfl _ _ HB5.out (mCells_size zeroM) (by rw [mst_size]; rfl) (mCells_one twoM) ?_)
  intro w6 hb6 hm6
  have HL6 := Lib.hid (show Live w w6 b ms mo t2 from ⟨HL5.out.at_.keep hm6 (fun r hr e => HG.out.2 (e ▸ hr)), HL5.out.mod.trans hm6 (fun r e hr => by have := HG.out.1; omega), HL5.out.own⟩)
  have HB6 := Lib.hid hb6
  clear hb6 hm6
  go_frame
  go_wp2_with fail
  refine (lv_read0 HL6.out 0 _ HL0.out (HK2.out.may ⟨by omega, by rw [HN2.out]; omega⟩)).mono ?_
  rintro e w7 ⟨v7, rfl, hr7, _, h7, hm7⟩
  have HL7 := Lib.hid h7
  have HR7 := Lib.hid (hr7.mono (D' := fun _ => True) (fun _ _ _ => trivial))
  have HB7 := Lib.hid (hm7.get HB6.out (fun e => e))
  clear h7 hr7 hm7
  go_wp2_with fail
  refine (place_any 100 _).mono ?_
  rintro e w' ⟨rfl, rfl⟩
  rw [show placeV 100 = .tuple #[.int .i64 2, .int .i64 73, .int .i64 75, .int .i64 25] from by unfold placeV; rw [if_neg (by omega)]; rfl]
  obtain ⟨c0, c1, c2, c3⟩ := MstAt.of (m := twoM) HB7.out
  have e0 : w7.cell? ⟨g, 0, none⟩ = some (.int .i64 2) := c0
  have e1 : w7.cell? ⟨g, 1, none⟩ = some (.int .i64 5) := c1
  have e2 : w7.cell? ⟨g, 2, none⟩ = some (.int .i64 7) := c2
  have e3 : w7.cell? ⟨g, 3, none⟩ = some (.int .i64 0) := c3
  clear c0 c1 c2 c3
  go_wp2_with fail
  refine (show Calls Try.prog 28 #[.agg #[.int .i64 2, .int .i64 5, .int .i64 7, .int .i64 0]] _ _ from of_any twoM _).mono ?_
  rintro e w8 ⟨rfl, hm8⟩
  have HL8 := Lib.hid (HL7.out.keep hm8)
  have HR8 := Lib.hid (HR7.out.keep hm8 (fun _ _ _ e => e))
  clear hm8 e0 e1 e2 e3
  go_wp2_with fail
  refine (rbytes_any twoM _).mono ?_
  rintro e w9 ⟨v9, rfl, ho9, hm9⟩
  have HL9 := Lib.hid (HL8.out.keep hm9)
  have HR9 := Lib.hid (HR8.out.keep hm9 (fun _ _ _ e => e))
  have HO9 := Lib.hid ho9.rd
  clear hm9 ho9
  go_wp2_with fail
  refine (lv_same HL9.out (l := secM twoM) (l' := secM twoM) (by rw [secM_length]; exact HR9.out) (by rw [secM_length]; exact HO9.out) (by rw [secM_length]; omega) true (decide_eq_true rfl)).mono ?_
  rintro e w10 ⟨rfl, h10, _⟩
  have HL10 := Lib.hid h10
  clear h10
  go_wp2_with fail
  refine (show Calls Try.prog 13 #[.pointer (some ⟨b, 0, none⟩), mV ⟨0, 1, 1, 0⟩] _ _ from mk_write HL10.out ⟨0, 1, 1, 0⟩).mono ?_
  rintro e w11 ⟨rfl, h11, _⟩
  rw [mwT_not ⟨0, 1, 1, 0⟩ (by decide)] at h11 ⊢
  have HL11 := Lib.hid h11
  clear h11
  go_wp2_with fail
  go_returns
  exact ⟨rfl, HL11.out.mod⟩

end Go.Proofs.Ythkbnhoebijdoaa
