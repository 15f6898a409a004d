/-
  DiskArmed: the walk.
-/
import Derived.Test.YthbicfbhghcmkaaArgs
import Derived.Test.YthbicfbhghcmkaaAwake
import Derived.Test.YthbicfbhghcmkaaDiskT
import Derived.Deep.RegionHeld3
namespace Go.Proofs.Ythbicfbhghcmkaa
open Go Go.RowKit Go.SM

/-- what is so before the i-th step of a disk that is armed for n -/
def ArmedAt (n : Int) (i : Nat) (s : DS) : Prop := s.n = 3 ∧ s.armed = (if (i : Int) < n then n - i else 0) ∧ s.down = decide (n ≤ (i : Int))

def StepCells (g o : Nat) (x : DoD) (W : World) : Prop := W.cell? ⟨g, o + 1, none⟩ = some (.int .i64 x.sector) ∧ W.cell? ⟨g, o + 3, none⟩ = some (.int .u8 (x.byte.toNat : Int))

theorem ArmedAt.start {N : Int} (h : 1 ≤ N) : ArmedAt N 0 (armS (newS 3) N) := by
  refine ⟨by simp [armS, newS], ?_, ?_⟩
  · simp [armS, newS]; omega
  · simp [armS, newS]; omega

theorem armed_crash {N : Int} {j : Nat} {s t : DS} (h : ArmedAt N j s) (ht : t.n = s.n ∧ t.armed = s.armed ∧ t.down = s.down) (hd : s.down = false) :
    (crashS t).n = 3 ∧ (crashS t).armed = (if ((j + 1 : Nat) : Int) < N then N - (j + 1 : Nat) else 0) ∧ (crashS t).down = decide (N ≤ ((j + 1 : Nat) : Int)) := by
  obtain ⟨h1, h2, h3⟩ := h
  have hlt : (j : Int) < N := by rw [hd] at h3; have := h3.symm; simp at this; omega
  rw [if_pos hlt] at h2
  have ha : t.armed = N - j := by rw [ht.2.1, h2]
  unfold crashS
  rw [if_pos (by omega)]
  refine ⟨by rw [← h1]; exact ht.1, ?_, ?_⟩
  · show t.armed - 1 = _
    split <;> omega
  · show decide (t.armed - 1 = 0) = _
    rw [decide_eq_decide]
    omega

theorem armed_sync {N : Int} {j : Nat} {s : DS} (h : ArmedAt N j s) : ArmedAt N (j + 1) (syncT s).2 ∧ (syncT s).1 = (if (j : Int) < N - 1 then 0 else 8) := by
  unfold syncT
  cases hd : s.down with
  | true =>
    have hm : mayE s 0 = 8 := by unfold mayE; rw [hd]; rfl
    have h3 := h.2.2
    rw [hd] at h3
    have hge : N ≤ (j : Int) := by simpa using h3.symm
    rw [hm, if_pos (by omega), if_neg (by omega)]
    refine ⟨⟨h.1, ?_, ?_⟩, rfl⟩
    · rw [h.2.1, if_neg (by omega), if_neg (by omega)]
    · rw [h.2.2, decide_eq_decide]; omega
  | false =>
    have hm : mayE s 0 = 0 := mayE_up hd ⟨by omega, by rw [h.1]; omega⟩
    rw [hm, if_neg (by omega)]
    have hc := armed_crash h ⟨rfl, rfl, rfl⟩ hd
    unfold syncS downE
    cases hcd : (crashS s).down with
    | true =>
      have h3 := hc.2.2
      rw [hcd] at h3
      have hge : N ≤ ((j + 1 : Nat) : Int) := by simpa using h3.symm
      exact ⟨hc, (show (8 : Int) = _ from by rw [if_neg (by omega)])⟩
    | false =>
      have h3 := hc.2.2
      rw [hcd] at h3
      have hge : ¬ N ≤ ((j + 1 : Nat) : Int) := by simpa using h3.symm
      exact ⟨hc, (show (0 : Int) = _ from by rw [if_pos (by omega)])⟩

theorem armed_write {N : Int} {j : Nat} {s : DS} (h : ArmedAt N j s) {k : Int} (hk : 0 ≤ k ∧ k < 3) {l : List UInt8} (hl : l.length = 512) :
    ArmedAt N (j + 1) (writeT s k l).2 ∧ (writeT s k l).1 = (if (j : Int) < N - 1 then 0 else 8) := by
  unfold writeT
  cases hd : s.down with
  | true =>
    have hm : mayE s k = 8 := by unfold mayE; rw [hd]; rfl
    have h3 := h.2.2
    rw [hd] at h3
    have hge : N ≤ (j : Int) := by simpa using h3.symm
    rw [hm, if_pos (by omega), if_neg (by omega)]
    refine ⟨⟨h.1, ?_, ?_⟩, rfl⟩
    · rw [h.2.1, if_neg (by omega), if_neg (by omega)]
    · rw [h.2.2, decide_eq_decide]; omega
  | false =>
    have hm : mayE s k = 0 := mayE_up hd ⟨hk.1, by rw [h.1]; omega⟩
    rw [hm, if_neg (by omega), if_neg (by omega)]
    have hc := armed_crash (t := { s with fo := put s.fo k l }) h ⟨rfl, rfl, rfl⟩ hd
    unfold downE
    cases hcd : (writeS s k l).down with
    | true =>
      have h3 := hc.2.2
      unfold writeS at hcd
      rw [hcd] at h3
      have hge : N ≤ ((j + 1 : Nat) : Int) := by simpa using h3.symm
      exact ⟨hc, (show (8 : Int) = _ from by rw [if_neg (by omega)])⟩
    | false =>
      have h3 := hc.2.2
      unfold writeS at hcd
      rw [hcd] at h3
      have hge : ¬ N ≤ ((j + 1 : Nat) : Int) := by simpa using h3.symm
      exact ⟨hc, (show (0 : Int) = _ from by rw [if_pos (by omega)])⟩

set_option maxHeartbeats 4000000 in
set_option maxRecDepth 100000 in
theorem armed_walk (n : Int) (w : World) (v : Value) (xs : List DoD) (hx : RdDos w (Old w) v xs) :
    Calls Try.prog 6 #[.int .i64 n, v] w fun e w' => e = .returned (.bool true) ∧ Mod none_ w w' := by
  obtain ⟨A, c, hv, hlc⟩ := hx.slice
  subst hv
  have HX := Lib.hid hx
  clear hx
  by_cases h80 : 80 < xs.length
  · have d1 : decide ((80 : Int) < (xs.length : Int)) = true := by simp; omega
    have HX80 := Lib.hid (HX.out.take (n := 80) (by omega))
    have HL := Lib.hid (show (xs.take 80).length = 80 ∧ (xs.take 80).length ≤ 80 by rw [List.length_take]; omega)
    go_enter Try.func6, Try.ntmps6
    go_wp2_with fail
    refine (awake_any _).mono ?_
    rintro e w1 ⟨rfl, hm1⟩
    have HM1 := Lib.hid hm1
    have HX1 := Lib.hid (HX80.out.keep hm1 (fun _ _ _ e => e))
    clear hm1
    go_wp2_with fail
    refine (pick_any n 80 _ ⟨by omega, by omega⟩).mono ?_
    rintro e w' ⟨rfl, rfl⟩
    generalize xs.take 80 = ys at *
    have hp := Int.emod_nonneg n (show (80 : Int) ≠ 0 by omega)
    have hp2 := Int.emod_lt_of_pos n (show (0 : Int) < 80 by omega)
    generalize n % 80 = p at *
    go_wp2_with fail
    refine (new_yes 3 _ ⟨by omega, by omega⟩).mono ?_
    rintro e w2 ⟨b, ms, mo, rfl, hd2, hm2, hb, hms, hmo⟩
    have HB := Lib.hid (show w1.heap.size ≤ b ∧ w1.heap.size ≤ ms ∧ w1.heap.size ≤ mo from ⟨hb, hms, hmo⟩)
    have HD2 := Lib.hid hd2
    have HM2 := Lib.hid hm2
    have HX2 := Lib.hid (HX1.out.keep hm2 (fun _ _ _ e => e))
    clear hd2 hm2 hb hms hmo
    go_wp2_with fail
    refine (arm_any HD2.out _ (by omega)).mono ?_
    rintro e w3 ⟨rfl, hd3, hm3⟩
    have HA3 := Lib.hid (ArmedAt.start (N := 1 + p) (by omega))
    have HD3 := Lib.hid hd3
    have HM3 := Lib.hid ((HM1.out.trans' HM2.out).trans hm3 (fun r e hr => by have h1 := HM1.out.size; have h2 := HB.out.1; omega))
    have HX3 := Lib.hid (HX2.out.keep hm3 (fun r hr hl e => by have h1 := HM1.out.size; have h2 := HB.out.1; unfold Old at hr; omega))
    clear hd3 hm3
    have hN : 1 ≤ 1 + p ∧ 1 + p ≤ 80 := by omega
    clear hp hp2
    generalize 1 + p = N at *
    go_wp2_with fail
    go_loopw [6] (fun i wr => ∃ (j : Nat) (s : DS), i = .int .i64 j ∧ j ≤ ys.length ∧ DkAt wr b ms mo s ∧ ArmedAt N j s ∧ Mod none_ w wr ∧ RdDos wr (Old w) (.slice A 80 c) ys) (fun i _ => ys.length - (intOf i).toNat)
    case atStart => exact ⟨0, _, rfl, Nat.zero_le _, HD3.out, HA3.out, HM3.out, HX3.out⟩
    case round =>
      obtain ⟨j, s, rfl, hj, hd, ha, hm, hxs⟩ := hrel
      have HD := Lib.hid hd
      have HA := Lib.hid ha
      have HM := Lib.hid hm
      have HXS := Lib.hid hxs
      clear hd ha hm hxs HD2 HD3 HA3 HM3 HM2 HX3 HX2 HX1 HX
      by_cases hlt : j < ys.length
      · obtain ⟨g, o, c', he, hDg, hgl, hat, hok⟩ := HXS.out.at_ hlt
        simp only [Value.slice.injEq] at he
        obtain ⟨rfl, hlen, rfl⟩ := he
        obtain ⟨q0, q1, q2, q3, _⟩ := hat
        clear hlen
        have d2 : decide ((j : Int) < 80) = true := by have := HL.out; simp; omega
        have e2 : (j : Int) < 80 := by have := HL.out; omega
        by_cases hop : ys[j].op.tmod 2 = 0
        · have d3 : (ys[j].op.tmod 2 == 0) = true := by simpa using hop
          have HS := Lib.hid (armed_sync HA.out)
          clear q1 q2 q3 hop
          go_wp2_with fail
          refine (sync_t HD.out).mono ?_
          rintro e w4 ⟨rfl, hd4, hm4⟩
          rw [HS.out.2]
          have HD4 := Lib.hid hd4
          have HM4 := Lib.hid (HM.out.trans hm4 (fun r e hr => by have h1 := HM1.out.size; have h2 := HB.out; rcases e with rfl | rfl | rfl <;> omega))
          have HX4 := Lib.hid (HXS.out.keep hm4 (fun r hr hl e => by have h1 := HM1.out.size; have h2 := HB.out; unfold Old at hr; rcases e with rfl | rfl | rfl <;> omega))
          clear hd4 hm4
          have hdn : (syncT s).2.down = decide (N - 1 ≤ (j : Int)) := by rw [HS.out.1.2.2, decide_eq_decide]; omega
          have HDN := Lib.hid hdn
          clear hdn q0 d3 d2
          by_cases hjn : (j : Int) < N - 1
          · rw [if_pos hjn]
            have d4 : decide ((j : Int) < N - 1) = true := by simpa using hjn
            have d5 : decide (N - 1 ≤ (j : Int)) = false := by simpa using hjn
            clear hjn
            go_wp2_with fail
            refine (down_any HD4.out).mono ?_
            rintro e w' ⟨rfl, rfl⟩
            rw [HDN.out, d5]
            go_wp2_with fail
            exact ⟨⟨j + 1, _, by go_num, by omega, HD4.out, HS.out.1, HM4.out, HX4.out⟩, by simp [intOf]; omega⟩
          · rw [if_neg hjn]
            have d4 : decide ((j : Int) < N - 1) = false := by simpa using hjn
            have d5 : decide (N - 1 ≤ (j : Int)) = true := by simp; omega
            clear hjn
            go_wp2_with fail
            refine (down_any HD4.out).mono ?_
            rintro e w' ⟨rfl, rfl⟩
            rw [HDN.out, d5]
            go_wp2_with fail
            exact ⟨⟨j + 1, _, by go_num, by omega, HD4.out, HS.out.1, HM4.out, HX4.out⟩, by simp [intOf]; omega⟩
        · have d3 : (ys[j].op.tmod 2 == 0) = false := by rw [beq_eq_false_iff_ne]; exact hop
          have hp := Int.emod_nonneg ys[j].sector (show (3 : Int) ≠ 0 by omega)
          have hp2 := Int.emod_lt_of_pos ys[j].sector (show (0 : Int) < 3 by omega)
          have HS := Lib.hid (armed_write HA.out ⟨hp, hp2⟩ (fullB_length ys[j].byte))
          clear hp hp2 q2 hop
          go_wp2_with fail
          have hgw : g < w.heap.size := hDg
          have hno : ¬ dkOwn b ms mo g := fun e => by have h1 := HM1.out.size; have h2 := HB.out; rcases e with rfl | rfl | rfl <;> omega
          go_region_held3 (fun W : World => W.cell? ⟨g, o + j * 5 + 1, none⟩ = some (.int .i64 ys[j].sector) ∧ W.cell? ⟨g, o + j * 5 + 3, none⟩ = some (.int .u8 (ys[j].byte.toNat : Int)))
            (first | exact ⟨q1, q3⟩ | exact hS5 | exact hS6)
            (first | (go_at_call 10; refine (pick_any _ 3 _ ⟨by omega, by omega⟩).mono ?_; rintro e w' ⟨rfl, rfl⟩)
                   | (go_at_call 13; refine (full_any _ _).mono ?_; rintro e w5 ⟨v5, rfl, ho5, hm5⟩; have hS5 := And.intro (hm5.of_drew.cell_eq q1 (fun e => e)) (hm5.of_drew.cell_eq q3 (fun e => e)))
                   | (go_at_call 12; refine (write_t (HD.out.keep hm5.of_drew (fun _ _ e => e)) _ (l := fullB ys[j].byte) (by rw [fullB_length]; exact ho5.rd)).mono ?_; rintro e w6 ⟨rfl, hd6, hm6⟩; have hS6 := And.intro (hm6.cell_eq hS5.1 hno) (hm6.cell_eq hS5.2 hno)))
          have HD6 := Lib.hid hd6
          have HM6 := Lib.hid ((HM.out.trans' hm5.of_drew).trans hm6 (fun r e hr => by have h1 := HM1.out.size; have h2 := HB.out; rcases e with rfl | rfl | rfl <;> omega))
          have HX6 := Lib.hid ((HXS.out.keep hm5.of_drew (fun r hr hl e => e)).keep hm6 (fun r hr hl e => by have h1 := HM1.out.size; have h2 := HB.out; unfold Old at hr; rcases e with rfl | rfl | rfl <;> omega))
          have hdn : (writeT s (ys[j].sector % 3) (fullB ys[j].byte)).2.down = decide (N - 1 ≤ (j : Int)) := by rw [HS.out.1.2.2, decide_eq_decide]; omega
          have HDN := Lib.hid hdn
          clear hd6 hm6 hm5 ho5 hS5 hS6 hdn q0 q1 q3 d3 d2
          rw [HS.out.2]
          by_cases hjn : (j : Int) < N - 1
          · rw [if_pos hjn]
            have d4 : decide ((j : Int) < N - 1) = true := by simpa using hjn
            have d5 : decide (N - 1 ≤ (j : Int)) = false := by simpa using hjn
            clear hjn
            go_wp2_with fail
            refine (down_any HD6.out).mono ?_
            rintro e w' ⟨rfl, rfl⟩
            rw [HDN.out, d5]
            go_wp2_with fail
            exact ⟨⟨j + 1, _, by go_num, by omega, HD6.out, HS.out.1, HM6.out, HX6.out⟩, by simp [intOf]; omega⟩
          · rw [if_neg hjn]
            have d4 : decide ((j : Int) < N - 1) = false := by simpa using hjn
            have d5 : decide (N - 1 ≤ (j : Int)) = true := by simp; omega
            clear hjn
            go_wp2_with fail
            refine (down_any HD6.out).mono ?_
            rintro e w' ⟨rfl, rfl⟩
            rw [HDN.out, d5]
            go_wp2_with fail
            exact ⟨⟨j + 1, _, by go_num, by omega, HD6.out, HS.out.1, HM6.out, HX6.out⟩, by simp [intOf]; omega⟩
      · have e2 : ¬ (j : Int) < 80 := by have := HL.out; omega
        have d2 : decide ((j : Int) < 80) = false := by simpa using e2
        clear e2
        go_wp2_with fail
        refine (wake_any HD.out (D := none_) (ks := []) (Rd.nil_ _ _ _) (fun r hr _ _ => hr) (by simp)).mono ?_
        rintro e w4 ⟨rfl, hd4, hm4⟩
        have HD4 := Lib.hid hd4
        have HM4 := Lib.hid (HM.out.trans hm4 (fun r e hr => by have h1 := HM1.out.size; have h2 := HB.out; rcases e with rfl | rfl | rfl <;> omega))
        clear hd4 hm4
        go_wp2_with fail
        refine (show Calls Try.prog 18 #[.pointer (some ⟨b, 0, none⟩)] w4 (fun e w' => e = .returned (.bool false) ∧ w4 = w') from down_any HD4.out).mono ?_
        rintro e w' ⟨rfl, rfl⟩
        go_wp2_with fail
        refine (full_any 1 _).mono ?_
        rintro e w5 ⟨v5, rfl, ho5, hm5⟩
        have HO5 := Lib.hid ho5.rd
        have HD5 := Lib.hid (HD4.out.keep hm5 (fun _ _ e => e))
        have HM5 := Lib.hid (HM4.out.trans' hm5)
        clear ho5 hm5
        go_wp2_with fail
        refine (write_calm HD5.out _ HO5.out rfl rfl ⟨by omega, by show (0 : Int) < s.n; rw [HA.out.1]; omega⟩).mono ?_
        rintro e w6 ⟨rfl, hd6, hm6⟩
        have HD6 := Lib.hid hd6
        have HM6 := Lib.hid (HM5.out.trans hm6 (fun r e hr => by have h1 := HM1.out.size; have h2 := HB.out; rcases e with rfl | rfl | rfl <;> omega))
        clear hd6 hm6
        go_wp2_with fail
        refine (sync_calm HD6.out rfl rfl).mono ?_
        rintro e w7 ⟨rfl, hd7, hm7⟩
        have HM7 := Lib.hid (HM6.out.trans hm7 (fun r e hr => by have h1 := HM1.out.size; have h2 := HB.out; rcases e with rfl | rfl | rfl <;> omega))
        clear hd7 hm7
        go_wp2_with fail
        go_ret
        exact ⟨rfl, HM7.out⟩
  · have d1 : decide ((80 : Int) < (xs.length : Int)) = false := by simp; omega
    have HX80 := Lib.hid HX.out
    have HL := Lib.hid (show xs.length = xs.length ∧ xs.length ≤ 80 by omega)
    go_enter Try.func6, Try.ntmps6
    go_wp2_with fail
    refine (awake_any _).mono ?_
    rintro e w1 ⟨rfl, hm1⟩
    have HM1 := Lib.hid hm1
    have HX1 := Lib.hid (HX80.out.keep hm1 (fun _ _ _ e => e))
    clear hm1
    go_wp2_with fail
    refine (pick_any n 80 _ ⟨by omega, by omega⟩).mono ?_
    rintro e w' ⟨rfl, rfl⟩
    obtain ⟨ys, hys⟩ : ∃ ys : List DoD, ys = xs := ⟨_, rfl⟩
    subst hys
    have hp := Int.emod_nonneg n (show (80 : Int) ≠ 0 by omega)
    have hp2 := Int.emod_lt_of_pos n (show (0 : Int) < 80 by omega)
    generalize n % 80 = p at *
    go_wp2_with fail
    refine (new_yes 3 _ ⟨by omega, by omega⟩).mono ?_
    rintro e w2 ⟨b, ms, mo, rfl, hd2, hm2, hb, hms, hmo⟩
    have HB := Lib.hid (show w1.heap.size ≤ b ∧ w1.heap.size ≤ ms ∧ w1.heap.size ≤ mo from ⟨hb, hms, hmo⟩)
    have HD2 := Lib.hid hd2
    have HM2 := Lib.hid hm2
    have HX2 := Lib.hid (HX1.out.keep hm2 (fun _ _ _ e => e))
    clear hd2 hm2 hb hms hmo
    go_wp2_with fail
    refine (arm_any HD2.out _ (by omega)).mono ?_
    rintro e w3 ⟨rfl, hd3, hm3⟩
    have HA3 := Lib.hid (ArmedAt.start (N := 1 + p) (by omega))
    have HD3 := Lib.hid hd3
    have HM3 := Lib.hid ((HM1.out.trans' HM2.out).trans hm3 (fun r e hr => by have h1 := HM1.out.size; have h2 := HB.out.1; omega))
    have HX3 := Lib.hid (HX2.out.keep hm3 (fun r hr hl e => by have h1 := HM1.out.size; have h2 := HB.out.1; unfold Old at hr; omega))
    clear hd3 hm3
    have hN : 1 ≤ 1 + p ∧ 1 + p ≤ 80 := by omega
    clear hp hp2
    generalize 1 + p = N at *
    go_wp2_with fail
    go_loopw [6] (fun i wr => ∃ (j : Nat) (s : DS), i = .int .i64 j ∧ j ≤ ys.length ∧ DkAt wr b ms mo s ∧ ArmedAt N j s ∧ Mod none_ w wr ∧ RdDos wr (Old w) (.slice A ys.length c) ys) (fun i _ => ys.length - (intOf i).toNat)
    case atStart => exact ⟨0, _, rfl, Nat.zero_le _, HD3.out, HA3.out, HM3.out, HX3.out⟩
    case round =>
      obtain ⟨j, s, rfl, hj, hd, ha, hm, hxs⟩ := hrel
      have HD := Lib.hid hd
      have HA := Lib.hid ha
      have HM := Lib.hid hm
      have HXS := Lib.hid hxs
      clear hd ha hm hxs HD2 HD3 HA3 HM3 HM2 HX3 HX2 HX1 HX
      by_cases hlt : j < ys.length
      · obtain ⟨g, o, c', he, hDg, hgl, hat, hok⟩ := HXS.out.at_ hlt
        simp only [Value.slice.injEq] at he
        obtain ⟨rfl, hlen, rfl⟩ := he
        obtain ⟨q0, q1, q2, q3, _⟩ := hat
        clear hlen
        have d2 : decide ((j : Int) < ys.length) = true := by have := HL.out; simp; omega
        have e2 : (j : Int) < ys.length := by have := HL.out; omega
        by_cases hop : ys[j].op.tmod 2 = 0
        · have d3 : (ys[j].op.tmod 2 == 0) = true := by simpa using hop
          have HS := Lib.hid (armed_sync HA.out)
          clear q1 q2 q3 hop
          go_wp2_with fail
          refine (sync_t HD.out).mono ?_
          rintro e w4 ⟨rfl, hd4, hm4⟩
          rw [HS.out.2]
          have HD4 := Lib.hid hd4
          have HM4 := Lib.hid (HM.out.trans hm4 (fun r e hr => by have h1 := HM1.out.size; have h2 := HB.out; rcases e with rfl | rfl | rfl <;> omega))
          have HX4 := Lib.hid (HXS.out.keep hm4 (fun r hr hl e => by have h1 := HM1.out.size; have h2 := HB.out; unfold Old at hr; rcases e with rfl | rfl | rfl <;> omega))
          clear hd4 hm4
          have hdn : (syncT s).2.down = decide (N - 1 ≤ (j : Int)) := by rw [HS.out.1.2.2, decide_eq_decide]; omega
          have HDN := Lib.hid hdn
          clear hdn q0 d3 d2
          by_cases hjn : (j : Int) < N - 1
          · rw [if_pos hjn]
            have d4 : decide ((j : Int) < N - 1) = true := by simpa using hjn
            have d5 : decide (N - 1 ≤ (j : Int)) = false := by simpa using hjn
            clear hjn
            go_wp2_with fail
            refine (down_any HD4.out).mono ?_
            rintro e w' ⟨rfl, rfl⟩
            rw [HDN.out, d5]
            go_wp2_with fail
            exact ⟨⟨j + 1, _, by go_num, by omega, HD4.out, HS.out.1, HM4.out, HX4.out⟩, by simp [intOf]; omega⟩
          · rw [if_neg hjn]
            have d4 : decide ((j : Int) < N - 1) = false := by simpa using hjn
            have d5 : decide (N - 1 ≤ (j : Int)) = true := by simp; omega
            clear hjn
            go_wp2_with fail
            refine (down_any HD4.out).mono ?_
            rintro e w' ⟨rfl, rfl⟩
            rw [HDN.out, d5]
            go_wp2_with fail
            exact ⟨⟨j + 1, _, by go_num, by omega, HD4.out, HS.out.1, HM4.out, HX4.out⟩, by simp [intOf]; omega⟩
        · have d3 : (ys[j].op.tmod 2 == 0) = false := by rw [beq_eq_false_iff_ne]; exact hop
          have hp := Int.emod_nonneg ys[j].sector (show (3 : Int) ≠ 0 by omega)
          have hp2 := Int.emod_lt_of_pos ys[j].sector (show (0 : Int) < 3 by omega)
          have HS := Lib.hid (armed_write HA.out ⟨hp, hp2⟩ (fullB_length ys[j].byte))
          clear hp hp2 q2 hop
          go_wp2_with fail
          have hgw : g < w.heap.size := hDg
          have hno : ¬ dkOwn b ms mo g := fun e => by have h1 := HM1.out.size; have h2 := HB.out; rcases e with rfl | rfl | rfl <;> omega
          go_region_held3 (fun W : World => W.cell? ⟨g, o + j * 5 + 1, none⟩ = some (.int .i64 ys[j].sector) ∧ W.cell? ⟨g, o + j * 5 + 3, none⟩ = some (.int .u8 (ys[j].byte.toNat : Int)))
            (first | exact ⟨q1, q3⟩ | exact hS5 | exact hS6)
            (first | (go_at_call 10; refine (pick_any _ 3 _ ⟨by omega, by omega⟩).mono ?_; rintro e w' ⟨rfl, rfl⟩)
                   | (go_at_call 13; refine (full_any _ _).mono ?_; rintro e w5 ⟨v5, rfl, ho5, hm5⟩; have hS5 := And.intro (hm5.of_drew.cell_eq q1 (fun e => e)) (hm5.of_drew.cell_eq q3 (fun e => e)))
                   | (go_at_call 12; refine (write_t (HD.out.keep hm5.of_drew (fun _ _ e => e)) _ (l := fullB ys[j].byte) (by rw [fullB_length]; exact ho5.rd)).mono ?_; rintro e w6 ⟨rfl, hd6, hm6⟩; have hS6 := And.intro (hm6.cell_eq hS5.1 hno) (hm6.cell_eq hS5.2 hno)))
          have HD6 := Lib.hid hd6
          have HM6 := Lib.hid ((HM.out.trans' hm5.of_drew).trans hm6 (fun r e hr => by have h1 := HM1.out.size; have h2 := HB.out; rcases e with rfl | rfl | rfl <;> omega))
          have HX6 := Lib.hid ((HXS.out.keep hm5.of_drew (fun r hr hl e => e)).keep hm6 (fun r hr hl e => by have h1 := HM1.out.size; have h2 := HB.out; unfold Old at hr; rcases e with rfl | rfl | rfl <;> omega))
          have hdn : (writeT s (ys[j].sector % 3) (fullB ys[j].byte)).2.down = decide (N - 1 ≤ (j : Int)) := by rw [HS.out.1.2.2, decide_eq_decide]; omega
          have HDN := Lib.hid hdn
          clear hd6 hm6 hm5 ho5 hS5 hS6 hdn q0 q1 q3 d3 d2
          rw [HS.out.2]
          by_cases hjn : (j : Int) < N - 1
          · rw [if_pos hjn]
            have d4 : decide ((j : Int) < N - 1) = true := by simpa using hjn
            have d5 : decide (N - 1 ≤ (j : Int)) = false := by simpa using hjn
            clear hjn
            go_wp2_with fail
            refine (down_any HD6.out).mono ?_
            rintro e w' ⟨rfl, rfl⟩
            rw [HDN.out, d5]
            go_wp2_with fail
            exact ⟨⟨j + 1, _, by go_num, by omega, HD6.out, HS.out.1, HM6.out, HX6.out⟩, by simp [intOf]; omega⟩
          · rw [if_neg hjn]
            have d4 : decide ((j : Int) < N - 1) = false := by simpa using hjn
            have d5 : decide (N - 1 ≤ (j : Int)) = true := by simp; omega
            clear hjn
            go_wp2_with fail
            refine (down_any HD6.out).mono ?_
            rintro e w' ⟨rfl, rfl⟩
            rw [HDN.out, d5]
            go_wp2_with fail
            exact ⟨⟨j + 1, _, by go_num, by omega, HD6.out, HS.out.1, HM6.out, HX6.out⟩, by simp [intOf]; omega⟩
      · have e2 : ¬ (j : Int) < ys.length := by have := HL.out; omega
        have d2 : decide ((j : Int) < ys.length) = false := by simpa using e2
        clear e2
        go_wp2_with fail
        refine (wake_any HD.out (D := none_) (ks := []) (Rd.nil_ _ _ _) (fun r hr _ _ => hr) (by simp)).mono ?_
        rintro e w4 ⟨rfl, hd4, hm4⟩
        have HD4 := Lib.hid hd4
        have HM4 := Lib.hid (HM.out.trans hm4 (fun r e hr => by have h1 := HM1.out.size; have h2 := HB.out; rcases e with rfl | rfl | rfl <;> omega))
        clear hd4 hm4
        go_wp2_with fail
        refine (show Calls Try.prog 18 #[.pointer (some ⟨b, 0, none⟩)] w4 (fun e w' => e = .returned (.bool false) ∧ w4 = w') from down_any HD4.out).mono ?_
        rintro e w' ⟨rfl, rfl⟩
        go_wp2_with fail
        refine (full_any 1 _).mono ?_
        rintro e w5 ⟨v5, rfl, ho5, hm5⟩
        have HO5 := Lib.hid ho5.rd
        have HD5 := Lib.hid (HD4.out.keep hm5 (fun _ _ e => e))
        have HM5 := Lib.hid (HM4.out.trans' hm5)
        clear ho5 hm5
        go_wp2_with fail
        refine (write_calm HD5.out _ HO5.out rfl rfl ⟨by omega, by show (0 : Int) < s.n; rw [HA.out.1]; omega⟩).mono ?_
        rintro e w6 ⟨rfl, hd6, hm6⟩
        have HD6 := Lib.hid hd6
        have HM6 := Lib.hid (HM5.out.trans hm6 (fun r e hr => by have h1 := HM1.out.size; have h2 := HB.out; rcases e with rfl | rfl | rfl <;> omega))
        clear hd6 hm6
        go_wp2_with fail
        refine (sync_calm HD6.out rfl rfl).mono ?_
        rintro e w7 ⟨rfl, hd7, hm7⟩
        have HM7 := Lib.hid (HM6.out.trans hm7 (fun r e hr => by have h1 := HM1.out.size; have h2 := HB.out; rcases e with rfl | rfl | rfl <;> omega))
        clear hd7 hm7
        go_wp2_with fail
        go_ret
        exact ⟨rfl, HM7.out⟩

end Go.Proofs.Ythbicfbhghcmkaa
