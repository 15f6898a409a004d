/-
  The law's fates: each set of sectors, of three that are written.
-/
import Derived.Test.YthbicfbhghcmkaaLive
import Derived.Test.YthbicfbhghcmkaaArgs
import Derived.Laws.BitsAllLaws
namespace Go.Proofs.Ythbicfbhghcmkaa
open Go Go.RowKit Go.SM

def Zn : Int → Option (List UInt8) := fun _ => none
/-- the sectors that are written below i -/
def upTo (i : Nat) : Int → Option (List UInt8) := fun k => if 0 ≤ k ∧ k < i then some (fullB (UInt8.ofNat k.toNat)) else none
/-- the sectors that are written above i -/
def above (i : Int) : Int → Option (List UInt8) := fun k => if i < k ∧ k < 3 then some (fullB (UInt8.ofNat (100 + k.toNat))) else none
/-- is sector k kept? -/
def bitK (keep : Int) (k : Int) : Bool := bits .and .i64 (keep / 2 ^ k.toNat) 1 == 1

theorem upTo_step (i : Nat) : put (upTo i) i (fullB (UInt8.ofNat i)) = upTo (i + 1) := by
  funext k
  unfold put upTo
  by_cases e : k = i
  · subst e; rw [if_pos rfl, if_pos (by omega), Int.toNat_natCast]
  · rw [if_neg e]
    by_cases h : 0 ≤ k ∧ k < i
    · rw [if_pos h, if_pos (by omega)]
    · rw [if_neg h, if_neg (by omega)]

theorem above_step (i : Nat) (h : i < 3) : put (above i) i (fullB (UInt8.ofNat (100 + i))) = above ((i : Int) - 1) := by
  funext k
  unfold put above
  by_cases e : k = i
  · subst e; rw [if_pos rfl, if_pos (by omega), Int.toNat_natCast]
  · rw [if_neg e]
    by_cases h : (i : Int) < k ∧ k < 3
    · rw [if_pos h, if_pos (by omega)]
    · rw [if_neg h, if_neg (by omega)]

theorem over_up : over (upTo 3) Zn = upTo 3 := by
  funext k
  unfold over upTo Zn
  by_cases h : 0 ≤ k ∧ k < (3 : Nat)
  · simp only [if_pos h]
  · simp only [if_neg h]

theorem above_two : above 2 = Zn := by
  funext k
  unfold above Zn
  rw [if_neg (by omega)]

/-- what a sector is read as in the end -/
def lastB (keep : Int) (k : Nat) : UInt8 := if bitK keep k then UInt8.ofNat (100 + k) else UInt8.ofNat k

theorem last_read {keep : Int} {ks : List Int} (hk : ∀ k : Int, 0 ≤ k → k < 3 → (k ∈ ks ↔ bitK keep k = true)) (k : Nat) (h : k < 3) (n : Int) :
    latS (wakeS ⟨n, upTo 3, above (-1), 0, false⟩ ks) k = fullB (lastB keep k) := by
  show (wakeFs ks (above (-1)) (upTo 3) k).getD zs = _
  unfold wakeFs lastB
  by_cases e : (k : Int) ∈ ks
  · rw [if_pos e, if_pos ((hk k (by omega) (by omega)).1 e)]
    unfold over above
    rw [if_pos (by omega), Int.toNat_natCast]
    exact Option.getD_some
  · rw [if_neg e, if_neg (fun h2 => e ((hk k (by omega) (by omega)).2 h2))]
    unfold upTo
    rw [if_pos (by omega), Int.toNat_natCast]
    exact Option.getD_some

theorem eltF : Elt Try.prog 23 39 1 8 := Elt.mk' (.agg #[.int .i64 0]) Try.underlying23 (by kernel_rfl) rfl (by decide)

set_option maxHeartbeats 4000000 in
set_option maxRecDepth 100000 in
theorem fates_any (w : World) : Calls Try.prog 25 #[] w fun e w' => e = .returned (.bool true) ∧ Mod none_ w w' := by
  go_enter Try.func25, Try.ntmps25
  go_wp2_with fail
  go_loopw [1] (fun i wr => ∃ k : Nat, i = .int .i64 k ∧ k ≤ 8 ∧ Mod none_ w wr) (fun i _ => 8 - (intOf i).toNat)
  case atStart => exact ⟨0, rfl, Nat.zero_le _, Mod.refl _ _⟩
  case round =>
    obtain ⟨keep, rfl, hk, hm⟩ := hrel
    have HM := Lib.hid hm
    clear hm
    by_cases hk8 : keep < 8
    · have d1 : decide ((keep : Int) < 8) = true := by simp; omega
      go_wp2_with fail
      refine (lv_new wr 3 ⟨by omega, by omega⟩ HM.out).mono ?_
      rintro e w1 ⟨b, ms, mo, rfl, h1⟩
      have HL1 := Lib.hid h1
      clear h1
      go_wp2_with fail
      go_loopw [4] (fun i wr => ∃ k : Nat, i = .int .i64 k ∧ k ≤ 3 ∧ Live w wr b ms mo ⟨3, Zn, upTo k, 0, false⟩) (fun i _ => 3 - (intOf i).toNat)
      case atStart => exact ⟨0, rfl, Nat.zero_le _, by have h := HL1.out; rw [show newS 3 = ⟨3, Zn, upTo 0, 0, false⟩ by unfold newS; congr 1; funext k; unfold upTo; rw [if_neg (by omega)]] at h; exact h⟩
      case round =>
        obtain ⟨i, rfl, hi, hl⟩ := hrel
        have HL := Lib.hid hl
        clear hl HL1
        by_cases hi3 : i < 3
        · have d2 : decide ((i : Int) < 3) = true := by simp; omega
          have hc : ((UInt8.ofNat i).toNat : Int) = i := by rw [UInt8.toNat_ofNat']; omega
          have HC := Lib.hid hc
          clear hc
          go_wp2_with fail
          refine (show Calls Try.prog 13 #[.int .u8 (i : Int)] _ _ from by rw [← HC.out]; exact lv_full HL.out (UInt8.ofNat i)).mono ?_
          rintro e w2 ⟨v2, rfl, hr2, hl2, _⟩
          have HL2 := Lib.hid hl2
          have HR2 := Lib.hid hr2
          clear hl2 hr2
          go_wp2_with fail
          refine (lv_write HL2.out i HR2.out ⟨3, Zn, upTo (i + 1), 0, false⟩ 0 (mayE_up rfl ⟨by omega, by show (i : Int) < 3; omega⟩) (by rw [writeS_calm rfl, ← upTo_step]) rfl).mono ?_
          rintro e w3 ⟨rfl, hl3, _⟩
          have HL3 := Lib.hid hl3
          clear hl3
          go_wp2_with fail
          exact ⟨⟨i + 1, by go_num, by omega, HL3.out⟩, by simp [intOf]; omega⟩
        · obtain rfl : i = 3 := by omega
          go_wp2_with fail
          refine (lv_sync HL.out ⟨3, upTo 3, above 2, 0, false⟩ rfl rfl (by rw [above_two]; show (⟨3, over (upTo 3) Zn, _, 0, false⟩ : DS) = _; rw [over_up]; rfl)).mono ?_
          rintro e w4 ⟨rfl, hl4, _⟩
          have HL4 := Lib.hid hl4
          clear hl4
          go_wp2_with fail
          have HM4 := Lib.hid (show w.heap.size ≤ w4.heap.size from HL4.out.mod.size)
          have HN4 := Lib.hid (show ∀ r, Fr w4 r → ¬ dkOwn b ms mo r from fun r hr e => by have h1 := HL4.out.at_.own_lt r e; unfold Fr at hr; omega)
          clear HL
          go_loopw [3, 5] (fun l i wr => ∃ (z : Int) (ks : List Int) (v : Value), i = .int .i64 z ∧ l = v ∧ -1 ≤ z ∧ z ≤ 2 ∧ Live w wr b ms mo ⟨3, upTo 3, above z, 0, false⟩ ∧
            OwnS wr (Fr w4) 39 1 v ks.length (ints ks) ∧ (∀ k : Int, 0 ≤ k → k < 3 → (k ∈ ks ↔ (z < k ∧ bitK keep k = true))) ∧ ks.length + 2 * (z + 1) ≤ 6 ∧ w4.heap.size ≤ wr.heap.size) (fun _ i _ => (intOf i + 1).toNat)
          case atStart => exact ⟨2, [], _, rfl, rfl, by omega, by omega, HL4.out, OwnS.nil_ _ _ _ _, fun k h1 h2 => by simp; omega, by decide, Nat.le_refl _⟩
          case round =>
            obtain ⟨z, ks, v, rfl, rfl, hz1, hz2, hl, ho, hks, hln, hsz⟩ := hrel
            have HL := Lib.hid hl
            have HO := Lib.hid ho
            have HK := Lib.hid hks
            have HZ := Lib.hid hln
            have HS := Lib.hid hsz
            clear hl ho hks hln hsz HL4
            by_cases hz : 0 ≤ z
            · obtain ⟨i, rfl⟩ : ∃ i : Nat, z = i := ⟨z.toNat, by omega⟩
              have hi3 : i < 3 := by omega
              have hc : ((UInt8.ofNat (100 + i)).toNat : Int) = 100 + i := by rw [UInt8.toNat_ofNat']; omega
              have HC := Lib.hid hc
              clear hc
              have d2 : decide ((0 : Int) ≤ (i : Int)) = true := by simp
              have d3 : decide ((i : Int) < 3) = true := by simp; omega
              go_wp2_with fail
              refine (show Calls Try.prog 13 #[.int .u8 (100 + (i : Int))] _ _ from by rw [← HC.out]; exact lv_full HL.out (UInt8.ofNat (100 + i))).mono ?_
              rintro e w5 ⟨v5, rfl, hr5, hl5, hm5⟩
              have HL5 := Lib.hid hl5
              have HR5 := Lib.hid hr5
              have HO5 := Lib.hid (HO.out.keep hm5 (fun r hr _ e => HN4.out r hr e))
              have HS5 := Lib.hid (Nat.le_trans HS.out hm5.size)
              clear hl5 hr5 hm5
              go_wp2_with fail
              refine (lv_write HL5.out i HR5.out ⟨3, upTo 3, above ((i : Int) - 1), 0, false⟩ 0 (mayE_up rfl ⟨by omega, by show (i : Int) < 3; omega⟩) (by rw [writeS_calm rfl, ← above_step i hi3]) rfl).mono ?_
              rintro e w6 ⟨rfl, hl6, hm6⟩
              have HL6 := Lib.hid hl6
              have HO6 := Lib.hid (HO5.out.keep hm6 (fun r hr _ e => HN4.out r hr e))
              have HS6 := Lib.hid (Nat.le_trans HS5.out hm6.size)
              clear hl6 hm6
              cases hbit : bitK keep i with
              | false =>
                have HB := Lib.hid hbit
                have hb : (bits .and .i64 ((keep : Int) / 2 ^ i) 1 == 1) = false := hbit
                clear hbit
                go_wp2_with fail
                refine ⟨⟨(i : Int) - 1, ks, _, by go_num, rfl, by omega, by omega, HL6.out, HO6.out, fun k h1 h2 => ?_, by have := HZ.out; omega, HS6.out⟩, by simp [intOf] <;> omega⟩
                rw [HK.out k h1 h2]
                constructor
                · rintro ⟨h3, h4⟩; exact ⟨by omega, h4⟩
                · rintro ⟨h3, h4⟩
                  refine ⟨?_, h4⟩
                  rcases Int.lt_or_eq_of_le (show (i : Int) ≤ k by omega) with h | h
                  · exact h
                  · subst h; rw [HB.out] at h4; cases h4
              | true =>
                have HB := Lib.hid hbit
                have hb : (bits .and .i64 ((keep : Int) / 2 ^ i) 1 == 1) = true := hbit
                clear hbit
                go_wp2_with (with_reducible refine at_ (o := ⟨some 52, _, _, _, _, _⟩) ?_)
                have hma := (Mod.refl none_ w6).alloc (.cells #[.int .i64 i, .int .i64 i] 39)
                have HRA := Lib.hid (show Rd (w6.alloc (.cells #[.int .i64 i, .int .i64 i] 39)) (Fr w6) 1 (.slice (some ⟨w6.heap.size, 0, none⟩) 2 2) 2 (ints [(i : Int), i]) from
                  ⟨_, _, rfl, Nat.le_refl _, rfl, fun _ => ⟨_, _, rfl, Nat.le_refl _, by simp, block_cells (xs := ints [(i : Int), i]) (heap_alloc_new w6 _)⟩⟩)
                have HOA := Lib.hid (HO6.out.keep hma (fun _ _ _ e => e))
                have HLA := Lib.hid (HL6.out.keep hma)
                have HSA := Lib.hid (Nat.le_trans HS6.out hma.size)
                clear hma
                refine un (wpList_append rfl _ _ 23 rfl eltF rfl HOA.out rfl HRA.out (by intro u hu; simp [ints] at hu; subst hu; rfl) (by have := HZ.out; omega) (by have := HZ.out; omega) (fun r hr => Nat.le_trans HSA.out hr) ?_)
                intro v7 w7 ho7 hm7
                have HL7 := Lib.hid (show Live w w7 b ms mo ⟨3, upTo 3, above ((i : Int) - 1), 0, false⟩ from
                  ⟨HLA.out.at_.keep hm7 (fun r hr e => HN4.out r e hr), HLA.out.mod.trans hm7 (fun r e hr => by have h1 := HL.out.mod.size; have h2 := HL5.out.at_.own_lt b (.inl rfl); have h3 := HL.out.own; have h4 := HN4.out; unfold Fr at e; have h5 : w.heap.size ≤ w4.heap.size := HM4.out; omega), HLA.out.own⟩)
                have HO7 := Lib.hid ho7
                have HS7 := Lib.hid (Nat.le_trans HSA.out hm7.size)
                clear ho7 hm7
                go_frame
                go_wp2_with fail
                refine ⟨⟨(i : Int) - 1, ks ++ [(i : Int), i], _, by go_num, rfl, by omega, by omega, HL7.out, by rw [List.length_append, ints, List.map_append]; exact HO7.out, fun k h1 h2 => ?_, by rw [List.length_append]; have := HZ.out; simp; omega, HS7.out⟩, by simp [intOf] <;> omega⟩
                rw [List.mem_append, HK.out k h1 h2]
                constructor
                · rintro (⟨h3, h4⟩ | h3)
                  · exact ⟨by omega, h4⟩
                  · have h4 : k = i := by simpa using h3
                    subst h4
                    exact ⟨by omega, HB.out⟩
                · rintro ⟨h3, h4⟩
                  rcases Int.lt_or_eq_of_le (show (i : Int) ≤ k by omega) with h | h
                  · exact .inl ⟨h, h4⟩
                  · subst h; exact .inr (by simp)
            · obtain rfl : z = -1 := by omega
              have hks' : ∀ k : Int, 0 ≤ k → k < 3 → (k ∈ ks ↔ bitK keep k = true) := fun k h1 h2 => by rw [HK.out k h1 h2]; exact ⟨fun h => h.2, fun h => ⟨by omega, h⟩⟩
              have HKK := Lib.hid hks'
              clear hks'
              obtain ⟨AA, cc, rfl⟩ := HO.out.rd.slice
              go_wp2_with fail
              refine (lv_wake HL.out HO.out.rd (fun r hr _ e => HN4.out r hr e) _ rfl (by have := HZ.out; omega)).mono ?_
              rintro e w5 ⟨rfl, hl5, _⟩
              have HL5 := Lib.hid hl5
              clear hl5
              go_wp2_with fail
              go_loopw [6] (fun i wr => ∃ k : Nat, i = .int .i64 k ∧ k ≤ 3 ∧ Live w wr b ms mo (wakeS ⟨3, upTo 3, above (-1), 0, false⟩ ks)) (fun i _ => 3 - (intOf i).toNat)
              case atStart => exact ⟨0, rfl, Nat.zero_le _, HL5.out⟩
              case round =>
                obtain ⟨i, rfl, hi, hl⟩ := hrel
                have HL := Lib.hid hl
                clear hl HL5
                by_cases hi3 : i < 3
                · have d2 : decide ((i : Int) < 3) = true := by simp; omega
                  go_wp2_with fail
                  refine (lv_read HL.out i _ (last_read HKK.out i hi3 3) (mayE_up rfl ⟨by omega, by show (i : Int) < 3; omega⟩)).mono ?_
                  rintro e w6 ⟨v6, rfl, hr6, hl6, _⟩
                  have HL6 := Lib.hid hl6
                  have HR6 := Lib.hid hr6
                  clear hl6 hr6
                  cases hbit : bitK keep i with
                  | false =>
                    have hb : (bits .and .i64 ((keep : Int) / 2 ^ i) 1 == 1) = false := hbit
                    have HB := Lib.hid (show lastB keep i = UInt8.ofNat i by unfold lastB; rw [hbit]; rfl)
                    have hc : ((UInt8.ofNat i).toNat : Int) = i := by rw [UInt8.toNat_ofNat']; omega
                    have HC := Lib.hid hc
                    clear hc hbit
                    go_wp2_with fail
                    refine (show Calls Try.prog 13 #[.int .u8 (i : Int)] _ _ from by rw [← HC.out]; exact lv_full HL6.out (UInt8.ofNat i)).mono ?_
                    rintro e w7 ⟨v7, rfl, hr7, hl7, hm7⟩
                    rw [HB.out] at HR6
                    have HR67 := Lib.hid (HR6.out.keep hm7 (fun r hr _ e => by have h1 := HL.out.at_.own_lt r e; unfold Fr at hr; omega))
                    have HR7 := Lib.hid hr7
                    have HL7 := Lib.hid hl7
                    clear hr7 hl7 hm7
                    go_wp2_with fail
                    refine (lv_same HL7.out HR67.out (l' := fullB (UInt8.ofNat i)) (by rw [fullB_length]; exact HR7.out) (by rw [fullB_length]; omega) true (decide_eq_true rfl)).mono ?_
                    rintro e w8 ⟨rfl, hl8, _⟩
                    have HL8 := Lib.hid hl8
                    clear hl8
                    go_wp2_with fail
                    exact ⟨⟨i + 1, by go_num, by omega, HL8.out⟩, by simp [intOf]; omega⟩
                  | true =>
                    have hb : (bits .and .i64 ((keep : Int) / 2 ^ i) 1 == 1) = true := hbit
                    have HB := Lib.hid (show lastB keep i = UInt8.ofNat (100 + i) by unfold lastB; rw [hbit]; rfl)
                    have hc : ((UInt8.ofNat (100 + i)).toNat : Int) = i + 100 := by rw [UInt8.toNat_ofNat']; omega
                    have HC := Lib.hid hc
                    clear hc hbit
                    go_wp2_with fail
                    refine (show Calls Try.prog 13 #[.int .u8 ((i : Int) + 100)] _ _ from by rw [← HC.out]; exact lv_full HL6.out (UInt8.ofNat (100 + i))).mono ?_
                    rintro e w7 ⟨v7, rfl, hr7, hl7, hm7⟩
                    rw [HB.out] at HR6
                    have HR67 := Lib.hid (HR6.out.keep hm7 (fun r hr _ e => by have h1 := HL.out.at_.own_lt r e; unfold Fr at hr; omega))
                    have HR7 := Lib.hid hr7
                    have HL7 := Lib.hid hl7
                    clear hr7 hl7 hm7
                    go_wp2_with fail
                    refine (lv_same HL7.out HR67.out (l' := fullB (UInt8.ofNat (100 + i))) (by rw [fullB_length]; exact HR7.out) (by rw [fullB_length]; omega) true (decide_eq_true rfl)).mono ?_
                    rintro e w8 ⟨rfl, hl8, _⟩
                    have HL8 := Lib.hid hl8
                    clear hl8
                    go_wp2_with fail
                    exact ⟨⟨i + 1, by go_num, by omega, HL8.out⟩, by simp [intOf]; omega⟩
                · have d2 : decide ((i : Int) < 3) = false := by simp; omega
                  go_wp2_with fail
                  exact ⟨⟨keep + 1, by go_num, by omega, HL.out.mod⟩, by simp [intOf]; omega⟩
    · have d1 : decide ((keep : Int) < 8) = false := by simp; omega
      go_wp2_with fail
      go_ret
      exact ⟨rfl, HM.out⟩

end Go.Proofs.Ythbicfbhghcmkaa
