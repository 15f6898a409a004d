/-
  The disk's awake: the chapter's first example, call by call. (Printed by wip/gen/awake18.py.)
-/
import Derived.Test.YthbicfbhghcmkaaGreatLawA
namespace Go.Proofs.YthbicfbhghcmkaaGreat
open Go Go.RowKit Go.SM

set_option maxHeartbeats 4000000 in
set_option maxRecDepth 100000 in
theorem awake_any (w : World) : Calls Tryz.prog 6 #[] w fun e w' => e = .returned (.bool true) ∧ Mod none_ w w' := by
  go_enter Tryz.func6, Tryz.ntmps6
  go_wp2_with fail
  refine (new_yes 2 _ ⟨by omega, by omega⟩).mono ?_
  rintro e w1 ⟨b, ms, mo, rfl, hd1, hm1, hb, hms, hmo⟩
  have HB := Lib.hid (show w.heap.size ≤ b ∧ w.heap.size ≤ ms ∧ w.heap.size ≤ mo from ⟨hb, hms, hmo⟩)
  have HD1 := Lib.hid hd1
  have HM1 := Lib.hid hm1
  clear hd1 hm1 hb hms hmo
  go_wp2_with fail
  refine (full_any 1 _).mono ?_
  rintro e w2 ⟨v2, rfl, ho2, hm2⟩
  have HO2 := Lib.hid ho2
  have HD2 := Lib.hid (HD1.out.keep hm2 (fun _ _ e => e))
  have HM2 := Lib.hid (HM1.out.trans' hm2)
  clear ho2 hm2
  go_wp2_with fail
  refine (write_calm HD2.out _ HO2.out.rd rfl rfl ⟨by omega, by show (_ : Int) < 2; omega⟩).mono ?_
  rintro e w3 ⟨rfl, hd3, hm3⟩
  have HD3 := Lib.hid hd3
  have HM3 := Lib.hid (modOwn HM2.out hm3 HB.out)
  clear hd3 hm3
  go_wp2_with fail
  refine (full_any 1 _).mono ?_
  rintro e w4 ⟨v4, rfl, ho4, hm4⟩
  have HO4 := Lib.hid ho4
  have HD4 := Lib.hid (HD3.out.keep hm4 (fun _ _ e => e))
  have HM4 := Lib.hid (HM3.out.trans' hm4)
  clear ho4 hm4
  go_wp2_with fail
  refine (write_calm HD4.out _ HO4.out.rd rfl rfl ⟨by omega, by show (_ : Int) < 2; omega⟩).mono ?_
  rintro e w5 ⟨rfl, hd5, hm5⟩
  have HD5 := Lib.hid hd5
  have HM5 := Lib.hid (modOwn HM4.out hm5 HB.out)
  clear hd5 hm5
  go_wp2_with fail
  refine (sync_calm HD5.out rfl rfl).mono ?_
  rintro e w6 ⟨rfl, hd6, hm6⟩
  have HD6 := Lib.hid hd6
  have HM6 := Lib.hid (modOwn HM5.out hm6 HB.out)
  clear hd6 hm6
  go_wp2_with fail
  refine (full_any 50 _).mono ?_
  rintro e w7 ⟨v7, rfl, ho7, hm7⟩
  have HO7 := Lib.hid ho7
  have HD7 := Lib.hid (HD6.out.keep hm7 (fun _ _ e => e))
  have HM7 := Lib.hid (HM6.out.trans' hm7)
  clear ho7 hm7
  go_wp2_with fail
  refine (write_calm HD7.out _ HO7.out.rd rfl rfl ⟨by omega, by show (_ : Int) < 2; omega⟩).mono ?_
  rintro e w8 ⟨rfl, hd8, hm8⟩
  have HD8 := Lib.hid hd8
  have HM8 := Lib.hid (modOwn HM7.out hm8 HB.out)
  clear hd8 hm8
  go_wp2_with fail
  refine (full_any 50 _).mono ?_
  rintro e w9 ⟨v9, rfl, ho9, hm9⟩
  have HO9 := Lib.hid ho9
  have HD9 := Lib.hid (HD8.out.keep hm9 (fun _ _ e => e))
  have HM9 := Lib.hid (HM8.out.trans' hm9)
  clear ho9 hm9
  go_wp2_with fail
  refine (write_calm HD9.out _ HO9.out.rd rfl rfl ⟨by omega, by show (_ : Int) < 2; omega⟩).mono ?_
  rintro e w10 ⟨rfl, hd10, hm10⟩
  have HD10 := Lib.hid hd10
  have HM10 := Lib.hid (modOwn HM9.out hm10 HB.out)
  clear hd10 hm10
  go_wp2_with fail
  have hma := (Mod.refl none_ w10).alloc (.cells #[.int .i64 1] 56)
  have HDA := Lib.hid (HD10.out.keep hma (fun _ _ e => e))
  have HRA := Lib.hid (show Rd (w10.alloc (.cells #[.int .i64 1] 56)) (Fr w10) 1 (.slice (some ⟨w10.heap.size, 0, none⟩) 1 1) 1 (ints [1]) from
    ⟨_, _, rfl, Nat.le_refl _, rfl, fun _ => ⟨_, _, rfl, Nat.le_refl _, by simp, block_cells (xs := ints [1]) (heap_alloc_new w10 _)⟩⟩)
  have HNA := Lib.hid (show ∀ r, Fr w10 r → r < (w10.alloc (.cells #[.int .i64 1] 56)).heap.size → ¬ dkOwn b ms mo r from fun r hr _ hn => by
    have := HD10.out.own_lt r hn
    have hr' : w10.heap.size ≤ r := hr
    omega)
  have HMA := Lib.hid (HM10.out.trans' hma)
  clear hma
  refine (wake_any HDA.out (ks := [1]) HRA.out HNA.out (by decide)).mono ?_
  rintro e w11 ⟨rfl, hd11, hm11⟩
  have HD11 := Lib.hid hd11
  have HM11 := Lib.hid (modOwn HMA.out hm11 HB.out)
  clear hd11 hm11
  go_wp2_with fail
  refine (read_is HD11.out 0 (l := fullB 1) (by simp [latS, wakeS, wakeFs, over, put, flushS, newS]) rfl ⟨by omega, by show (_ : Int) < 2; omega⟩).mono ?_
  rintro e w12 ⟨v12, rfl, ho12, hm12⟩
  have HO12 := Lib.hid (show Rd w12 (fun _ => True) 1 v12 (fullB 1).length (u8s (fullB 1)) by rw [fullB_length]; exact ho12.rd.mono fun _ _ _ => trivial)
  have HD12 := Lib.hid (HD11.out.keep hm12 (fun _ _ e => e))
  have HM12 := Lib.hid (HM11.out.trans' hm12)
  clear ho12 hm12
  go_wp2_with fail
  refine (read_is HD12.out 1 (l := fullB 50) (by simp [latS, wakeS, wakeFs, over, put, flushS, newS]) rfl ⟨by omega, by show (_ : Int) < 2; omega⟩).mono ?_
  rintro e w13 ⟨v13, rfl, ho13, hm13⟩
  have HO13 := Lib.hid (show Rd w13 (fun _ => True) 1 v13 (fullB 50).length (u8s (fullB 50)) by rw [fullB_length]; exact ho13.rd.mono fun _ _ _ => trivial)
  have HD13 := Lib.hid (HD12.out.keep hm13 (fun _ _ e => e))
  have HO12 := Lib.hid (HO12.out.keep hm13 (fun _ _ _ e => e))
  have HM13 := Lib.hid (HM12.out.trans' hm13)
  clear ho13 hm13
  go_wp2_with fail
  refine (full_any 1 _).mono ?_
  rintro e w14 ⟨v14, rfl, ho14, hm14⟩
  have HO14 := Lib.hid (show Rd w14 (fun _ => True) 1 v14 (fullB 1).length (u8s (fullB 1)) by rw [fullB_length]; exact ho14.rd.mono fun _ _ _ => trivial)
  have HD14 := Lib.hid (HD13.out.keep hm14 (fun _ _ e => e))
  have HO12 := Lib.hid (HO12.out.keep hm14 (fun _ _ _ e => e))
  have HO13 := Lib.hid (HO13.out.keep hm14 (fun _ _ _ e => e))
  have HM14 := Lib.hid (HM13.out.trans' hm14)
  clear ho14 hm14
  go_wp2_with fail
  refine (same_any HO12.out HO14.out (by rw [fullB_length]; omega)).mono ?_
  rintro e w15 ⟨rfl, hm15⟩
  rw [show decide (fullB 1 = fullB 1) = true from decide_eq_true rfl]
  have HD15 := Lib.hid (HD14.out.keep hm15 (fun _ _ e => e))
  have HO13 := Lib.hid (HO13.out.keep hm15 (fun _ _ _ e => e))
  have HM15 := Lib.hid (HM14.out.trans' hm15)
  clear hm15
  go_wp2_with fail
  refine (full_any 50 _).mono ?_
  rintro e w16 ⟨v16, rfl, ho16, hm16⟩
  have HO16 := Lib.hid (show Rd w16 (fun _ => True) 1 v16 (fullB 50).length (u8s (fullB 50)) by rw [fullB_length]; exact ho16.rd.mono fun _ _ _ => trivial)
  have HD16 := Lib.hid (HD15.out.keep hm16 (fun _ _ e => e))
  have HO13 := Lib.hid (HO13.out.keep hm16 (fun _ _ _ e => e))
  have HM16 := Lib.hid (HM15.out.trans' hm16)
  clear ho16 hm16
  go_wp2_with fail
  refine (same_any HO13.out HO16.out (by rw [fullB_length]; omega)).mono ?_
  rintro e w17 ⟨rfl, hm17⟩
  rw [show decide (fullB 50 = fullB 50) = true from decide_eq_true rfl]
  have HD17 := Lib.hid (HD16.out.keep hm17 (fun _ _ e => e))
  have HM17 := Lib.hid (HM16.out.trans' hm17)
  clear hm17
  go_wp2_with fail
  refine (show Calls Tryz.prog 20 #[.pointer (some ⟨b, 0, none⟩)] w17 (fun e w' => e = .returned (.int .i64 2) ∧ w17 = w') from sectors_any HD17.out).mono ?_
  rintro e w' ⟨rfl, rfl⟩
  go_wp2_with fail
  refine (new_no 0 _ (by omega)).mono ?_
  rintro e w' ⟨rfl, rfl⟩
  go_wp2_with fail
  refine (write_arg HD17.out 0 none 0 0 (mayE_up rfl ⟨by omega, by show (_ : Int) < 2; omega⟩) (by omega)).mono ?_
  rintro e w' ⟨rfl, rfl⟩
  go_wp2_with fail
  go_ret
  exact ⟨rfl, HM17.out⟩

end Go.Proofs.YthbicfbhghcmkaaGreat
