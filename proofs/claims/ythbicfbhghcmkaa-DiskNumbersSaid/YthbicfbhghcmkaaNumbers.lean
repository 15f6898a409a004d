/-
  DiskNumbers: the walk, call by call. (Printed by wip/gen/numbers18.py.)
-/
import Derived.Test.YthbicfbhghcmkaaFates
import Derived.Test.YthbicfbhghcmkaaAwake
namespace Go.Proofs.Ythbicfbhghcmkaa
open Go Go.RowKit Go.SM

def P1 : Int → Option (List UInt8) := put Zn 0 (fullB 1)
def S1 : Int → Option (List UInt8) := wakeFs [] P1 Zn

set_option maxHeartbeats 4000000 in
set_option maxRecDepth 100000 in
theorem numbers_any (w : World) : Calls Try.prog 5 #[] w fun e w' => e = .returned (.bool true) ∧ Mod none_ w w' := by
  go_enter Try.func5, Try.ntmps5
  go_wp2_with fail
  refine (new_no (-1) _ (by omega)).mono ?_
  rintro e w' ⟨rfl, rfl⟩
  go_wp2_with fail
  refine (new_no 8193 _ (by omega)).mono ?_
  rintro e w' ⟨rfl, rfl⟩
  go_wp2_with fail
  refine (lv_new w 8192 ⟨by omega, by omega⟩ (Mod.refl _ _)).mono ?_
  rintro e w1 ⟨b, ms, mo, rfl, hl1⟩
  have HL1 := Lib.hid hl1
  have HO := Lib.hid (show ∀ r, ¬ dkOwn b ms mo r → ¬ dkOwn b ms mo r from fun _ h => h)
  clear hl1
  go_wp2_with fail
  refine (lv_sectors HL1.out 8192 rfl).mono ?_
  rintro e w2 ⟨rfl, hl2, hm2⟩
  have HL2 := Lib.hid hl2
  clear hl2 hm2
  go_wp2_with fail
  refine (lv_full HL2.out 9).mono ?_
  rintro e w3 ⟨v3, rfl, hr3, hl3, hm3⟩
  have HL3 := Lib.hid hl3
  have HF1 := Lib.hid (hr3.mono (D' := fun r => ¬ dkOwn b ms mo r) (fun r hr _ e => by have h1 := HL2.out.at_.own_lt r e; unfold Fr at hr; omega))
  clear hr3 hl3 hm3
  go_wp2_with fail
  refine (lv_write HL3.out 8191 HF1.out _ 0 rfl rfl rfl).mono ?_
  rintro e w4 ⟨rfl, hl4, hm4⟩
  have HL4 := Lib.hid hl4
  have HF1_4 := Lib.hid (HF1.out.keep hm4 (fun r hr _ e => HO.out r hr e))
  clear hl4 hm4
  go_wp2_with fail
  refine (lv_full HL4.out 9).mono ?_
  rintro e w5 ⟨v5, rfl, hr5, hl5, hm5⟩
  have HL5 := Lib.hid hl5
  have HF2 := Lib.hid (hr5.mono (D' := fun r => ¬ dkOwn b ms mo r) (fun r hr _ e => by have h1 := HL4.out.at_.own_lt r e; unfold Fr at hr; omega))
  clear hr5 hl5 hm5
  go_wp2_with fail
  refine (lv_write_no HL5.out 8192 _ 6 rfl (by decide)).mono ?_
  rintro e w6 ⟨rfl, hl6, hm6⟩
  have HL6 := Lib.hid hl6
  have HF2_6 := Lib.hid (HF2.out.keep hm6 (fun r hr _ e => HO.out r hr e))
  clear hl6 hm6
  go_wp2_with fail
  refine (lv_full HL6.out 9).mono ?_
  rintro e w7 ⟨v7, rfl, hr7, hl7, hm7⟩
  have HL7 := Lib.hid hl7
  have HF3 := Lib.hid (hr7.mono (D' := fun r => ¬ dkOwn b ms mo r) (fun r hr _ e => by have h1 := HL6.out.at_.own_lt r e; unfold Fr at hr; omega))
  clear hr7 hl7 hm7
  go_wp2_with fail
  refine (lv_write_no HL7.out (-1) _ 6 rfl (by decide)).mono ?_
  rintro e w8 ⟨rfl, hl8, hm8⟩
  have HL8 := Lib.hid hl8
  have HF3_8 := Lib.hid (HF3.out.keep hm8 (fun r hr _ e => HO.out r hr e))
  clear hl8 hm8
  go_wp2_with (with_reducible refine at_ (o := ⟨some 43, _, _, _, _, _⟩) ?_)
  refine un (wpListG_make (by first | rfl | kernel_rfl | simp [Region.wanted]) 35 _ _ rfl 5 (.int .u8 0) 1 Try.underlying35 binfo rfl .i64 .i64 513 513 rfl rfl (Nat.le_refl _) (by omega) (by omega) ?_)
  intro w9 g9 hb9 hm9 hs9
  have HL9 := Lib.hid (HL8.out.keep hm9)
  have HM1 := Lib.hid (show Rd w9 (fun r => ¬ dkOwn b ms mo r) 1 (.slice (some ⟨g9, 0, none⟩) 513 513) 513 (u8s (List.replicate 513 0)) from ⟨_, _, rfl, Nat.le_refl _, by rw [length_u8s, List.length_replicate], fun _ => ⟨g9, 0, rfl, fun e => by have h1 := HL8.out.at_.own_lt _ e; omega, blk_lt hb9, fun i u hu => block_cells (by rw [hb9, u8s, List.map_replicate]; rfl) i u hu⟩⟩)
  clear hb9 hm9 hs9
  go_frame
  go_wp2_with fail
  refine (lv_write_arg HL9.out 0 _ 513 _ rfl (by decide)).mono ?_
  rintro e w10 ⟨rfl, hl10, hm10⟩
  have HL10 := Lib.hid hl10
  have HM1_10 := Lib.hid (HM1.out.keep hm10 (fun r hr _ e => HO.out r hr e))
  clear hl10 hm10
  go_wp2_with fail
  clear HO
  refine (lv_new w10 1 ⟨by omega, by omega⟩ HL10.out.mod).mono ?_
  rintro e w11 ⟨b, ms, mo, rfl, hl11⟩
  have HL11 := Lib.hid hl11
  have HO := Lib.hid (show ∀ r, ¬ dkOwn b ms mo r → ¬ dkOwn b ms mo r from fun _ h => h)
  clear hl11
  go_wp2_with fail
  refine (lv_arm HL11.out 2 ⟨1, Zn, Zn, 2, false⟩ rfl (by omega)).mono ?_
  rintro e w12 ⟨rfl, hl12, hm12⟩
  have HL12 := Lib.hid hl12
  clear hl12 hm12
  go_wp2_with fail
  refine (lv_full HL12.out 1).mono ?_
  rintro e w13 ⟨v13, rfl, hr13, hl13, hm13⟩
  have HL13 := Lib.hid hl13
  have HF4 := Lib.hid (hr13.mono (D' := fun r => ¬ dkOwn b ms mo r) (fun r hr _ e => by have h1 := HL12.out.at_.own_lt r e; unfold Fr at hr; omega))
  clear hr13 hl13 hm13
  go_wp2_with fail
  refine (lv_write HL13.out 0 HF4.out ⟨1, Zn, P1, 1, false⟩ 0 rfl rfl rfl).mono ?_
  rintro e w14 ⟨rfl, hl14, hm14⟩
  have HL14 := Lib.hid hl14
  have HF4_14 := Lib.hid (HF4.out.keep hm14 (fun r hr _ e => HO.out r hr e))
  clear hl14 hm14
  go_wp2_with fail
  refine (lv_sync_down HL14.out ⟨1, Zn, P1, 0, true⟩ rfl rfl rfl).mono ?_
  rintro e w15 ⟨rfl, hl15, hm15⟩
  have HL15 := Lib.hid hl15
  clear hl15 hm15
  go_wp2_with fail
  refine (lv_read_no HL15.out 0 8 rfl (by decide)).mono ?_
  rintro e w16 ⟨rfl, hl16, hm16⟩
  have HL16 := Lib.hid hl16
  clear hl16 hm16
  go_wp2_with fail
  refine (lv_arm HL16.out 5 ⟨1, Zn, P1, 0, true⟩ rfl (by omega)).mono ?_
  rintro e w17 ⟨rfl, hl17, hm17⟩
  have HL17 := Lib.hid hl17
  clear hl17 hm17
  go_wp2_with fail
  refine (lv_wake HL17.out (D := none_) (ks := []) (Rd.nil_ _ _ _) (fun _ h _ _ => h) ⟨1, S1, Zn, 0, false⟩ rfl (by decide)).mono ?_
  rintro e w18 ⟨rfl, hl18, hm18⟩
  have HL18 := Lib.hid hl18
  clear hl18 hm18
  go_wp2_with fail
  refine (lv_read HL18.out 0 zs (by simp [latS, S1, wakeFs, Zn]) rfl).mono ?_
  rintro e w19 ⟨v19, rfl, hr19, hl19, hm19⟩
  have HL19 := Lib.hid hl19
  have HX1 := Lib.hid (hr19.mono (D' := fun r => ¬ dkOwn b ms mo r) (fun r hr _ e => by have h1 := HL18.out.at_.own_lt r e; unfold Fr at hr; omega))
  clear hr19 hl19 hm19
  go_wp2_with (with_reducible refine at_ (o := ⟨some 85, _, _, _, _, _⟩) ?_)
  refine un (wpListG_make (by first | rfl | kernel_rfl | simp [Region.wanted]) 35 _ _ rfl 5 (.int .u8 0) 1 Try.underlying35 binfo rfl .i64 .i64 512 512 rfl rfl (Nat.le_refl _) (by omega) (by omega) ?_)
  intro w20 g20 hb20 hm20 hs20
  have HL20 := Lib.hid (HL19.out.keep hm20)
  have HX1_20 := Lib.hid (HX1.out.keep (hm20.mono (S' := dkOwn b ms mo) fun _ _ e => e.elim) (fun r hr _ e => HO.out r hr e))
  have HM2 := Lib.hid (show Rd w20 (fun r => ¬ dkOwn b ms mo r) 1 (.slice (some ⟨g20, 0, none⟩) 512 512) 512 (u8s (List.replicate 512 0)) from ⟨_, _, rfl, Nat.le_refl _, by rw [length_u8s, List.length_replicate], fun _ => ⟨g20, 0, rfl, fun e => by have h1 := HL19.out.at_.own_lt _ e; omega, blk_lt hb20, fun i u hu => block_cells (by rw [hb20, u8s, List.map_replicate]; rfl) i u hu⟩⟩)
  clear hb20 hm20 hs20
  go_frame
  go_wp2_with fail
  refine (lv_same HL20.out HX1_20.out (l' := zs) HM2.out (by decide) true (decide_eq_true rfl)).mono ?_
  rintro e w21 ⟨rfl, hl21, hm21⟩
  have HL21 := Lib.hid hl21
  have HX1_21 := Lib.hid (HX1_20.out.keep hm21 (fun r hr _ e => HO.out r hr e))
  have HM2_21 := Lib.hid (HM2.out.keep hm21 (fun r hr _ e => HO.out r hr e))
  clear hl21 hm21
  go_wp2_with fail
  refine (lv_down HL21.out false rfl).mono ?_
  rintro e w22 ⟨rfl, hl22, hm22⟩
  have HL22 := Lib.hid hl22
  clear hl22 hm22
  go_wp2_with fail
  refine (lv_arm HL22.out 1 ⟨1, S1, Zn, 1, false⟩ rfl (by omega)).mono ?_
  rintro e w23 ⟨rfl, hl23, hm23⟩
  have HL23 := Lib.hid hl23
  clear hl23 hm23
  go_wp2_with fail
  refine (lv_full HL23.out 1).mono ?_
  rintro e w24 ⟨v24, rfl, hr24, hl24, hm24⟩
  have HL24 := Lib.hid hl24
  have HF5 := Lib.hid (hr24.mono (D' := fun r => ¬ dkOwn b ms mo r) (fun r hr _ e => by have h1 := HL23.out.at_.own_lt r e; unfold Fr at hr; omega))
  clear hr24 hl24 hm24
  go_wp2_with fail
  refine (lv_write_no HL24.out 1 _ 6 rfl (by decide)).mono ?_
  rintro e w25 ⟨rfl, hl25, hm25⟩
  have HL25 := Lib.hid hl25
  have HF5_25 := Lib.hid (HF5.out.keep hm25 (fun r hr _ e => HO.out r hr e))
  clear hl25 hm25
  go_wp2_with fail
  refine (lv_write_arg HL25.out 0 _ 0 _ rfl (by decide)).mono ?_
  rintro e w26 ⟨rfl, hl26, hm26⟩
  have HL26 := Lib.hid hl26
  clear hl26 hm26
  go_wp2_with fail
  refine (lv_full HL26.out 1).mono ?_
  rintro e w27 ⟨v27, rfl, hr27, hl27, hm27⟩
  have HL27 := Lib.hid hl27
  have HF6 := Lib.hid (hr27.mono (D' := fun r => ¬ dkOwn b ms mo r) (fun r hr _ e => by have h1 := HL26.out.at_.own_lt r e; unfold Fr at hr; omega))
  clear hr27 hl27 hm27
  go_wp2_with fail
  refine (lv_write HL27.out 0 HF6.out ⟨1, S1, P1, 0, true⟩ 8 rfl rfl rfl).mono ?_
  rintro e w28 ⟨rfl, hl28, hm28⟩
  have HL28 := Lib.hid hl28
  have HF6_28 := Lib.hid (HF6.out.keep hm28 (fun r hr _ e => HO.out r hr e))
  clear hl28 hm28
  go_wp2_with fail
  refine (lv_down HL28.out true rfl).mono ?_
  rintro e w29 ⟨rfl, hl29, hm29⟩
  have HL29 := Lib.hid hl29
  clear hl29 hm29
  go_wp2_with fail
  refine (lv_full HL29.out 2).mono ?_
  rintro e w30 ⟨v30, rfl, hr30, hl30, hm30⟩
  have HL30 := Lib.hid hl30
  have HF7 := Lib.hid (hr30.mono (D' := fun r => ¬ dkOwn b ms mo r) (fun r hr _ e => by have h1 := HL29.out.at_.own_lt r e; unfold Fr at hr; omega))
  clear hr30 hl30 hm30
  go_wp2_with fail
  refine (lv_write_no HL30.out 0 _ 8 rfl (by decide)).mono ?_
  rintro e w31 ⟨rfl, hl31, hm31⟩
  have HL31 := Lib.hid hl31
  have HF7_31 := Lib.hid (HF7.out.keep hm31 (fun r hr _ e => HO.out r hr e))
  clear hl31 hm31
  go_wp2_with fail
  refine (lv_sync_no HL31.out 8 rfl (by decide)).mono ?_
  rintro e w32 ⟨rfl, hl32, hm32⟩
  have HL32 := Lib.hid hl32
  clear hl32 hm32
  go_wp2_with fail
  refine (lv_write_no HL32.out 7 _ 8 rfl (by decide)).mono ?_
  rintro e w33 ⟨rfl, hl33, hm33⟩
  have HL33 := Lib.hid hl33
  clear hl33 hm33
  go_wp2_with fail
  have hma := (Mod.refl none_ w33).alloc (.cells #[.int .i64 3, .int .i64 0, .int .i64 (-1)] 39)
  have HLA := Lib.hid (HL33.out.keep hma)
  have HRA := Lib.hid (show Rd (w33.alloc (.cells #[.int .i64 3, .int .i64 0, .int .i64 (-1)] 39)) (Fr w33) 1 (.slice (some ⟨w33.heap.size, 0, none⟩) 3 3) 3 (ints [3, 0, -1]) from
    ⟨_, _, rfl, Nat.le_refl _, rfl, fun _ => ⟨_, _, rfl, Nat.le_refl _, by simp, block_cells (xs := ints [3, 0, -1]) (heap_alloc_new w33 _)⟩⟩)
  have HNA := Lib.hid (show ∀ r, Fr w33 r → ¬ dkOwn b ms mo r from fun r hr hn => by
    have := HL33.out.at_.own_lt r hn
    have hr' : w33.heap.size ≤ r := hr
    omega)
  clear hma
  refine (lv_wake HLA.out (ks := [3, 0, -1]) HRA.out (fun r hr _ => HNA.out r hr) ⟨1, wakeFs [3, 0, -1] P1 S1, Zn, 0, false⟩ rfl (by decide)).mono ?_
  rintro e w34 ⟨rfl, hl34, hm34⟩
  have HL34 := Lib.hid hl34
  clear hl34 hm34
  go_wp2_with fail
  refine (lv_read HL34.out 0 (fullB 1) (by simp [latS, P1, wakeFs, over, put, Zn]) rfl).mono ?_
  rintro e w35 ⟨v35, rfl, hr35, hl35, hm35⟩
  have HL35 := Lib.hid hl35
  have HX2 := Lib.hid (hr35.mono (D' := fun r => ¬ dkOwn b ms mo r) (fun r hr _ e => by have h1 := HL34.out.at_.own_lt r e; unfold Fr at hr; omega))
  clear hr35 hl35 hm35
  go_wp2_with fail
  refine (lv_arm HL35.out 1 ⟨1, wakeFs [3, 0, -1] P1 S1, Zn, 1, false⟩ rfl (by omega)).mono ?_
  rintro e w36 ⟨rfl, hl36, hm36⟩
  have HL36 := Lib.hid hl36
  have HX2_36 := Lib.hid (HX2.out.keep hm36 (fun r hr _ e => HO.out r hr e))
  clear hl36 hm36
  go_wp2_with fail
  refine (lv_arm HL36.out 0 ⟨1, wakeFs [3, 0, -1] P1 S1, Zn, 0, false⟩ rfl (by omega)).mono ?_
  rintro e w37 ⟨rfl, hl37, hm37⟩
  have HL37 := Lib.hid hl37
  have HX2_37 := Lib.hid (HX2_36.out.keep hm37 (fun r hr _ e => HO.out r hr e))
  clear hl37 hm37
  go_wp2_with fail
  refine (lv_full HL37.out 1).mono ?_
  rintro e w38 ⟨v38, rfl, hr38, hl38, hm38⟩
  have HL38 := Lib.hid hl38
  have HX2_38 := Lib.hid (HX2_37.out.keep hm38 (fun r hr _ e => HO.out r hr e))
  have HF8 := Lib.hid (hr38.mono (D' := fun r => ¬ dkOwn b ms mo r) (fun r hr _ e => by have h1 := HL37.out.at_.own_lt r e; unfold Fr at hr; omega))
  clear hr38 hl38 hm38
  go_wp2_with fail
  refine (lv_same HL38.out HX2_38.out (l' := fullB 1) (by rw [fullB_length]; exact HF8.out) (by rw [fullB_length]; omega) true (decide_eq_true rfl)).mono ?_
  rintro e w39 ⟨rfl, hl39, hm39⟩
  have HL39 := Lib.hid hl39
  have HX2_39 := Lib.hid (HX2_38.out.keep hm39 (fun r hr _ e => HO.out r hr e))
  have HF8_39 := Lib.hid (HF8.out.keep hm39 (fun r hr _ e => HO.out r hr e))
  clear hl39 hm39
  go_wp2_with fail
  refine (lv_sync HL39.out _ rfl rfl rfl).mono ?_
  rintro e w40 ⟨rfl, hl40, hm40⟩
  have HL40 := Lib.hid hl40
  clear hl40 hm40
  go_wp2_with fail
  refine (fates_any _).mono ?_
  rintro e w41 ⟨rfl, hm41⟩
  have HM41 := Lib.hid (HL40.out.mod.trans' hm41)
  clear hm41
  go_wp2_with fail
  refine (awake_any _).mono ?_
  rintro e w42 ⟨rfl, hm42⟩
  have HM42 := Lib.hid (HM41.out.trans' hm42)
  clear hm42
  go_wp2_with fail
  go_ret
  exact ⟨rfl, HM42.out⟩

end Go.Proofs.Ythbicfbhghcmkaa
