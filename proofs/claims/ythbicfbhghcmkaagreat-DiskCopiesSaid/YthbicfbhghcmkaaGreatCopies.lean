/-
  DiskCopies: the walk.
-/
import Derived.Test.YthbicfbhghcmkaaGreatCopyD
namespace Go.Proofs.YthbicfbhghcmkaaGreat
open Go Go.RowKit Go.SM

theorem own_three {w : World} {ga gb gc ca cb cc : Nat} {la lb lc : List UInt8} (ha : OwnS w (· = ga) 5 1 (.slice (some ⟨ga, 0, none⟩) 512 ca) 512 (u8s la)) (hb : OwnS w (· = gb) 5 1 (.slice (some ⟨gb, 0, none⟩) 512 cb) 512 (u8s lb)) (hc : OwnS w (· = gc) 5 1 (.slice (some ⟨gc, 0, none⟩) 512 cc) 512 (u8s lc)) :
    Own1 w [.slice (some ⟨ga, 0, none⟩) 512 ca, .slice (some ⟨gb, 0, none⟩) 512 cb, .slice (some ⟨gc, 0, none⟩) 512 cc] (fun _ => 512) (fun k => if k = 0 then la else if k = 1 then lb else lc) := fun k hk => by
  match k, hk with
  | 0, _ => exact ⟨ha.row, fun g hg => hg⟩
  | 1, _ => exact ⟨hb.row, fun g hg => hg⟩
  | 2, _ => exact ⟨hc.row, fun g hg => hg⟩
theorem own_three_v {ga gb gc ca cb cc na nb nc k : Nat} (h : OwnV [.slice (some ⟨ga, 0, none⟩) na ca, .slice (some ⟨gb, 0, none⟩) nb cb, .slice (some ⟨gc, 0, none⟩) nc cc] k) : k = ga ∨ k = gb ∨ k = gc := by
  obtain ⟨i, hi, hb⟩ := h
  match i, hi with
  | 0, _ => injection hb with hb; exact .inl hb.symm
  | 1, _ => injection hb with hb; exact .inr (.inl hb.symm)
  | 2, _ => injection hb with hb; exact .inr (.inr hb.symm)
theorem apt_three {ga gb gc ca cb cc na nb nc : Nat} (h1 : ga ≠ gb) (h2 : ga ≠ gc) (h3 : gb ≠ gc) : Apt [.slice (some ⟨ga, 0, none⟩) na ca, .slice (some ⟨gb, 0, none⟩) nb cb, .slice (some ⟨gc, 0, none⟩) nc cc] := fun i j hi hj hij b e1 e2 => by
  match i, hi, j, hj with
  | 0, _, 0, _ => exact hij rfl
  | 1, _, 1, _ => exact hij rfl
  | 2, _, 2, _ => exact hij rfl
  | 0, _, 1, _ => injection e1 with e1; injection e2 with e2; simp only at e1 e2; omega
  | 0, _, 2, _ => injection e1 with e1; injection e2 with e2; simp only at e1 e2; omega
  | 1, _, 0, _ => injection e1 with e1; injection e2 with e2; simp only at e1 e2; omega
  | 1, _, 2, _ => injection e1 with e1; injection e2 with e2; simp only at e1 e2; omega
  | 2, _, 0, _ => injection e1 with e1; injection e2 with e2; simp only at e1 e2; omega
  | 2, _, 1, _ => injection e1 with e1; injection e2 with e2; simp only at e1 e2; omega

set_option maxHeartbeats 16000000 in
set_option maxRecDepth 100000 in
theorem copies_walk (w : World) (D : Nat → Prop) (sec at0 : Int) (v : Value) (xs : List DoD) (hx : RdDos w D v xs) (hD : ∀ k, D k → k < w.heap.size) :
    Calls Tryz.prog 3 #[.int .i64 sec, v, .int .i64 at0] w fun e w' => e = .returned (.bool true) ∧ Mod none_ w w' := by
  obtain ⟨A, c, hv, hlc⟩ := hx.slice
  subst hv
  have HX := Lib.hid hx
  have HD := Lib.hid hD
  clear hx hD
  have key : ∃ (n0 : Nat) (ys : List DoD), Hid (RdDos w D (.slice A n0 c) ys) ∧ Hid (n0 = ys.length ∧ n0 ≤ 80) ∧ ((80 < xs.length ∧ n0 = 80) ∨ (xs.length ≤ 80 ∧ n0 = xs.length)) := by
    by_cases h80 : 80 < xs.length
    · exact ⟨80, xs.take 80, Lib.hid (HX.out.take (n := 80) (by omega)), Lib.hid (by rw [List.length_take]; omega), .inl ⟨h80, rfl⟩⟩
    · exact ⟨xs.length, xs, HX, Lib.hid ⟨rfl, by omega⟩, .inr ⟨by omega, rfl⟩⟩
  obtain ⟨n0, ys, HX0, HN0, hn0⟩ := key
  clear HX
  go_enter Tryz.func3, Tryz.ntmps3
  go_upto_if 23 with (fail)
  go_cut [1] (fun s1 wx => s1 = .slice A n0 c ∧ wx = w)
  case first =>
    rcases hn0 with ⟨h80, hn0⟩ | ⟨h80, hn0⟩
    · have d1 : decide ((80 : Int) < (xs.length : Int)) = true := by simp; omega
      have HNE := Lib.hid hn0
      clear hn0
      go_wp2_with fail
      go_meet
      exact ⟨by rw [HNE.out], rfl⟩
    · have d1 : decide ((80 : Int) < (xs.length : Int)) = false := by simp; omega
      have HNE := Lib.hid hn0
      clear hn0
      go_wp2_with fail
      go_meet
      exact ⟨by rw [HNE.out], rfl⟩
  case rest =>
    obtain ⟨rfl, rfl⟩ := hcut
    clear hn0
    go_wp2_with fail
    by_cases hsec : 1 ≤ sec ∧ sec ≤ 8192
    · refine (lv_new _ sec hsec (Mod.refl _ _)).mono ?_
      rintro e w1 ⟨b, ms, mo, rfl, h1⟩
      have HL1 := Lib.hid h1
      clear h1
      go_wp2_with fail
      refine (both_new _ sec hsec HL1.out).mono ?_
      rintro e w2 ⟨r, rfl, h2⟩
      have H2 := Lib.hid h2
      clear h2 HL1
      generalize newS sec = s0 at *
      obtain ⟨X, hX⟩ : ∃ X, XS.mk (dkOwn b ms mo) none_ = X := ⟨_, rfl⟩
      have h2 := H2.out
      rw [hX] at h2
      have H2 := Lib.hid h2
      clear h2 hX hsec
      have hn80 := HN0.out.2
      go_wp2_with fail
      refine (pick_nat at0 ((n0 : Int) + 1) _ ⟨by omega, by omega⟩).mono ?_
      rintro e w' ⟨at1, rfl, heq, hat1, rfl⟩
      clear heq
      have hat : at1 ≤ n0 := by omega
      clear hat1
      go_wp2_with fail
      go_loopw [9] (fun i wr => ∃ (j : Nat), i = .int .i64 j ∧ j ≤ n0 ∧ (∀ i (h : i < ys.length), i < j → ys[i].fates.length ≤ 1000) ∧ wr = w2) (fun i _ => n0 - (intOf i).toNat)
      case atStart => exact ⟨0, rfl, Nat.zero_le _, fun i _ h => absurd h (by omega), rfl⟩
      case round =>
        obtain ⟨j, rfl, hj, hfa, rfl⟩ := hrel
        have HFA := Lib.hid hfa
        clear hfa
        by_cases hlt : j < n0
        · have hjy : j < ys.length := by have := HN0.out; omega
          obtain ⟨g, o, c', he, hDg, hgl, hat', hok⟩ := (HX0.out.keep H2.out.live.mod (fun _ _ _ e => e)).at_ hjy
          simp only [Value.slice.injEq] at he
          obtain ⟨rfl, hne, rfl⟩ := he
          clear hne hok hDg hgl
          have HFJ := Lib.hid (show ∀ h : ys[j].fates.length ≤ 1000, ∀ i (h : i < ys.length), i < j + 1 → ys[i].fates.length ≤ 1000 from fun h i hi hij => by
            by_cases e : i = j
            · subst e; exact h
            · exact HFA.out i hi (by omega))
          generalize ys[j] = x at *
          obtain ⟨fv, q4, hrf⟩ := hat'.2.2.2.2
          obtain ⟨FA, FC, hfv⟩ := hrf.slice
          subst hfv
          have d2 : decide ((j : Int) < (n0 : Int)) = true := by simpa using hlt
          have e2 : (j : Int) < (n0 : Int) := by omega
          have hj80 : j < 80 := by omega
          clear hat' hrf
          by_cases hf : 1000 < x.fates.length
          · have d3 : decide ((1000 : Int) < (x.fates.length : Int)) = true := by simp; omega
            go_wp2_with fail
            refine (awake_any _).mono ?_
            rintro e w3 ⟨rfl, hm3⟩
            have HM3 := Lib.hid (H2.out.live.mod.trans' hm3)
            clear hm3
            go_wp2_with fail
            go_returns
            exact ⟨rfl, HM3.out⟩
          · have d3 : decide ((1000 : Int) < (x.fates.length : Int)) = false := by simp; omega
            go_wp2_with fail
            exact ⟨⟨j + 1, by go_num, by omega, HFJ.out (by omega), by first | rfl | trivial⟩, by simp [intOf] <;> omega⟩
        · have d2 : decide ((j : Int) < (n0 : Int)) = false := by simpa using hlt
          have e2 : ¬ (j : Int) < (n0 : Int) := by omega
          have HFB := Lib.hid (show ∀ i (h : i < ys.length), ys[i].fates.length ≤ 1000 from fun i hi => HFA.out i hi (by have := HN0.out; omega))
          obtain ⟨w20, rfl⟩ : ∃ w20 : World, w20 = wr := ⟨_, rfl⟩
          clear HFA
          have HFA := HFB
          clear HFB
          go_wp2_with fail
          clear d2 e2 hj hlt
          go_loopw [10] (fun i wr => ∃ (j : Nat) (s : DS), i = .int .i64 j ∧ j ≤ at1 ∧ Both wc wr b ms mo X r s) (fun i _ => at1 - (intOf i).toNat)
          case atStart => exact ⟨0, _, rfl, Nat.zero_le _, H2.out⟩
          case round =>
            obtain ⟨j, s, rfl, hj, hb⟩ := hrel
            have H := Lib.hid hb
            clear hb H2
            by_cases hlt : j < at1
            · have d2 : decide ((j : Int) < (at1 : Int)) = true := by simpa using hlt
              have e2 : (j : Int) < (at1 : Int) := by omega
              have hj80 : j < 80 := by omega
              have hjn : j < n0 := by omega
              have hjy : j < ys.length := by have := HN0.out; omega
              obtain ⟨g, o, c', he, hDg, hgl, hat, hok⟩ := (HX0.out.keep H.out.live.mod (fun _ _ _ e => e)).at_ hjy
              simp only [Value.slice.injEq] at he
              obtain ⟨rfl, hne, rfl⟩ := he
              clear hne
              have HAT := Lib.hid hat
              have HOK := Lib.hid hok
              have HFL := Lib.hid (HFA.out j hjy)
              generalize ys[j] = x at *
              obtain ⟨fv, q4, hrf⟩ := HAT.out.2.2.2.2
              have HC := Lib.hid (HAT.out.cells q4)
              obtain ⟨FA, FC, hfv⟩ := hrf.slice
              subst hfv
              have HRF := Lib.hid hrf
              clear hat hok hDg hgl hrf
              go_wp2_with (with_reducible refine at_ (o := ⟨some 74, _, _, _, _, _⟩) ?_)
              refine un (wpList_load rfl 31 _ rfl g (o + j * 5) rfl (doL x (.slice FA x.fates.length FC)) _ Tryz.underlying31 rfl HC.out (by rw [do_size]; rfl) ?_)
              go_frame
              go_wp2_with fail
              refine (show Calls Tryz.prog 8 #[.pointer (some ⟨b, 0, none⟩), .pointer (some ⟨r, 0, none⟩), doV x (.slice FA x.fates.length FC)] _ _ from step18 H.out x HOK.out.2.2.1 HRF.out HD.out HFL.out).mono ?_
              rintro e w3' ⟨rfl, h3, hm3⟩
              have H3 := Lib.hid h3
              have HM3 := Lib.hid hm3
              clear h3 hm3 q4
              go_wp2_with fail
              exact ⟨⟨j + 1, _, by go_num, by omega, H3.out⟩, by simp [intOf] <;> omega⟩
            · have d2 : decide ((j : Int) < (at1 : Int)) = false := by simpa using hlt
              have e2 : ¬ (j : Int) < (at1 : Int) := by omega
              obtain ⟨wr0, rfl⟩ : ∃ wr0 : World, wr0 = wr := ⟨_, rfl⟩
              obtain ⟨lv, LL, hr⟩ := H.out.ref
              have HR := Lib.hid hr
              clear hr
              go_wp2_with fail
              refine (copy_any H.out.live.at_).mono ?_
              rintro e w3 ⟨be, me, moe, rfl, hd3, hm3, hz3⟩
              have HD3 := Lib.hid hd3
              have HM3 := Lib.hid hm3
              have HZ3 := Lib.hid hz3
              have HR3 := Lib.hid (HR.out.keep hm3 (fun _ e => e.elim))
              clear hd3 hm3 hz3 d2 e2
              go_wp2_with fail
              refine (rcopy_any HR3.out).mono ?_
              rintro e w4 ⟨r2, lv2, rfl, hc4, ho4, hm4, hz4⟩
              obtain ⟨XA, XB, hcp⟩ := copied H.out HR.out HD3.out HM3.out HZ3.out hc4 ho4 hm4 hz4
              have HCP := Lib.hid hcp
              clear hc4 ho4 hm4 hz4 hcp HD3 HM3 HZ3 HR3 HR H hj hlt
              go_wp2_with fail
              go_loopw [13] (fun i wr => ∃ (j : Nat) (s : DS), i = .int .i64 j ∧ j ≤ n0 ∧ Both wc wr b ms mo XA r s ∧ Mod (BM wc b ms mo XA) w4 wr) (fun i _ => n0 - (intOf i).toNat)
              case atStart => exact ⟨at1, _, rfl, hat, HCP.out.one, Mod.refl _ _⟩
              case round =>
                obtain ⟨j, s1, rfl, hj, hb, hm⟩ := hrel
                have H := Lib.hid hb
                have HM := Lib.hid hm
                clear hb hm
                by_cases hlt : j < n0
                · have d2 : decide ((j : Int) < (n0 : Int)) = true := by simpa using hlt
                  have e2 : (j : Int) < (n0 : Int) := by omega
                  have hj80 : j < 80 := by omega
                  have hjy : j < ys.length := by have := HN0.out; omega
                  obtain ⟨g, o, c', he, hDg, hgl, hat, hok⟩ := (HX0.out.keep H.out.live.mod (fun _ _ _ e => e)).at_ hjy
                  simp only [Value.slice.injEq] at he
                  obtain ⟨rfl, hne, rfl⟩ := he
                  clear hne
                  have HAT := Lib.hid hat
                  have HOK := Lib.hid hok
                  have HFL := Lib.hid (HFA.out j hjy)
                  generalize ys[j] = x at *
                  obtain ⟨fv, q4, hrf⟩ := HAT.out.2.2.2.2
                  have HC := Lib.hid (HAT.out.cells q4)
                  obtain ⟨FA, FC, hfv⟩ := hrf.slice
                  subst hfv
                  have HRF := Lib.hid hrf
                  clear hat hok hDg hgl hrf
                  go_wp2_with (with_reducible refine at_ (o := ⟨some 92, _, _, _, _, _⟩) ?_)
                  refine un (wpList_load rfl 31 _ rfl g (o + j * 5) rfl (doL x (.slice FA x.fates.length FC)) _ Tryz.underlying31 rfl HC.out (by rw [do_size]; rfl) ?_)
                  go_frame
                  go_wp2_with fail
                  refine (show Calls Tryz.prog 8 #[.pointer (some ⟨b, 0, none⟩), .pointer (some ⟨r, 0, none⟩), doV x (.slice FA x.fates.length FC)] _ _ from step18 H.out x HOK.out.2.2.1 HRF.out HD.out HFL.out).mono ?_
                  rintro e w3' ⟨rfl, h3, hm3⟩
                  have H3 := Lib.hid h3
                  have HM3 := Lib.hid hm3
                  clear h3 hm3 q4
                  go_wp2_with fail
                  exact ⟨⟨j + 1, _, by go_num, by omega, H3.out, HM.out.trans' HM3.out⟩, by simp [intOf] <;> omega⟩
                · have d2 : decide ((j : Int) < (n0 : Int)) = false := by simpa using hlt
                  have e2 : ¬ (j : Int) < (n0 : Int) := by omega
                  obtain ⟨w5, rfl⟩ : ∃ w5 : World, w5 = wr := ⟨_, rfl⟩
                  have HT := Lib.hid (HCP.out.two.others' HM.out HCP.out.oneM)
                  have HTM := Lib.hid (show ∀ k, BM wc be me moe (XS.mk (fun k => XB k ∨ (w4.heap.size ≤ k ∧ k < w5.heap.size)) XB.z) k → k < w5.heap.size → XA k ∧ ¬ XA.z k ∧ ¬ dkOwn b ms mo k ∧ wc.heap.size ≤ k from fun k hk hl => by
                    by_cases hk4 : k < w4.heap.size
                    · exact HCP.out.twoM k (hk.imp id (fun e => ⟨e.1, fun e2 => e.2 (.inl e2)⟩)) hk4
                    · rcases hk with hk | hk
                      · have := HCP.out.two.live.at_.own_lt k hk; omega
                      · exact absurd (.inr ⟨by omega, hl⟩) hk.2)
                  generalize (XS.mk (fun k => XB k ∨ (w4.heap.size ≤ k ∧ k < w5.heap.size)) XB.z) = XC at *
                  go_wp2_with fail
                  clear d2 e2 hj hlt HCP
                  go_loopw [14] (fun i wr => ∃ (s2 : DS), ((∃ j : Nat, i = .int .i64 j ∧ at1 ≤ j ∧ j < n0) ∨ i = .int .i64 ((at1 : Int) - 1)) ∧ Both wc wr be me moe XC r2 s2 ∧ Mod (BM wc be me moe XC) w5 wr) (fun i _ => (intOf i + 1).toNat)
                  case atStart =>
                    refine ⟨_, ?_, HT.out, Mod.refl _ _⟩
                    by_cases e : at1 < n0
                    · exact .inl ⟨n0 - 1, by congr 1; omega, by omega, by omega⟩
                    · exact .inr (by congr 1; omega)
                  case round =>
                    obtain ⟨s2, hi, hb, hm⟩ := hrel
                    have H2 := Lib.hid hb
                    have HM2 := Lib.hid hm
                    clear hb hm HT
                    rcases hi with ⟨j, rfl, hj, hlt⟩ | rfl
                    · have d2 : decide ((at1 : Int) ≤ (j : Int)) = true := by simp; omega
                      have d3 : decide (at1 ≤ j) = true := by simp; omega
                      have e2 : (at1 : Int) ≤ (j : Int) := by omega
                      have hj80 : j < 80 := by omega
                      have hjy : j < ys.length := by have := HN0.out; omega
                      obtain ⟨g, o, c', he, hDg, hgl, hat, hok⟩ := (HX0.out.keep H2.out.live.mod (fun _ _ _ e => e)).at_ hjy
                      simp only [Value.slice.injEq] at he
                      obtain ⟨rfl, hne, rfl⟩ := he
                      clear hne
                      have HAT := Lib.hid hat
                      have HOK := Lib.hid hok
                      have HFL := Lib.hid (HFA.out j hjy)
                      generalize ys[j] = x at *
                      obtain ⟨fv, q4, hrf⟩ := HAT.out.2.2.2.2
                      have HC := Lib.hid (HAT.out.cells q4)
                      obtain ⟨FA, FC, hfv⟩ := hrf.slice
                      subst hfv
                      have HRF := Lib.hid hrf
                      clear hat hok hDg hgl hrf
                      go_wp2_with (with_reducible refine at_ (o := ⟨some 107, _, _, _, _, _⟩) ?_)
                      refine un (wpList_load rfl 31 _ rfl g (o + j * 5) rfl (doL x (.slice FA x.fates.length FC)) _ Tryz.underlying31 rfl HC.out (by rw [do_size]; rfl) ?_)
                      go_frame
                      go_wp2_with fail
                      refine (show Calls Tryz.prog 8 #[.pointer (some ⟨be, 0, none⟩), .pointer (some ⟨r2, 0, none⟩), doV x (.slice FA x.fates.length FC)] _ _ from step18 H2.out x HOK.out.2.2.1 HRF.out HD.out HFL.out).mono ?_
                      rintro e w3' ⟨rfl, h3, hm3⟩
                      have H3 := Lib.hid h3
                      have HM3 := Lib.hid hm3
                      clear h3 hm3 q4
                      go_wp2_with fail
                      refine ⟨⟨_, ?_, H3.out, HM2.out.trans' HM3.out⟩, by simp [intOf] <;> omega⟩
                      by_cases e : j = at1
                      · subst e; exact .inr rfl
                      · exact .inl ⟨j - 1, by congr 1; omega, by omega, by omega⟩
                    · have d2 : decide ((at1 : Int) ≤ (at1 : Int) - 1) = false := by simp; omega
                      have e2 : ¬ (at1 : Int) ≤ (at1 : Int) - 1 := by omega
                      have HONE := Lib.hid (H.out.others HM2.out HTM.out)
                      obtain ⟨w6, rfl⟩ : ∃ w6 : World, w6 = wr := ⟨_, rfl⟩
                      have hle : ys.length ≤ 1000 := by have := HN0.out; omega
                      have HXV := Lib.hid (show ∀ W : World, Both wc W b ms mo XA r s1 → Calls Tryz.prog 11 #[.pointer (some ⟨b, 0, none⟩), .pointer (some ⟨r, 0, none⟩), .slice A n0 c] W fun e w' => e = .returned (.bool true) ∧ Both wc w' b ms mo XA r s1 ∧ Mod none_ W w' from fun W hW => like_any hW (HX0.out.keep hW.live.mod (fun _ _ _ e => e)) hle)
                      have HXW := Lib.hid (show ∀ W : World, Both wc W be me moe XC r2 s2 → Calls Tryz.prog 11 #[.pointer (some ⟨be, 0, none⟩), .pointer (some ⟨r2, 0, none⟩), .slice A n0 c] W fun e w' => e = .returned (.bool true) ∧ Both wc w' be me moe XC r2 s2 ∧ Mod none_ W w' from fun W hW => like_any hW (HX0.out.keep hW.live.mod (fun _ _ _ e => e)) hle)
                      clear HTM HM2 HM H
                      go_wp2_with fail
                      refine (HXV.out _ HONE.out).mono ?_
                      rintro e w7 ⟨rfl, h7, hm7⟩
                      have H7 := Lib.hid h7
                      have H27 := Lib.hid (H2.out.keep hm7)
                      clear h7 hm7 HXV HONE H2 d2 e2
                      go_wp2_with fail
                      refine (HXW.out _ H27.out).mono ?_
                      rintro e w8 ⟨rfl, _, hm8⟩
                      have HL8 := Lib.hid (H7.out.keep hm8).live
                      clear hm8 HXW H7 H27
                      go_wp2_with fail
                      refine (lv_wake HL8.out (D := none_) (ks := []) (Rd.nil_ _ _ _) (fun r hr _ _ => hr) _ rfl (by simp)).mono ?_
                      rintro e w9 ⟨rfl, hl9, _⟩
                      have HL9 := Lib.hid hl9
                      have hmay : mayE (wakeS s1 []) 0 = 0 := by
                        have h1 := hl9.at_.n1
                        exact mayE_up rfl ⟨by omega, by omega⟩
                      have HMAY := Lib.hid hmay
                      clear hl9 hmay HL8
                      generalize wakeS s1 [] = t at *
                      have hlen : (latS t 0).length = 512 := latS_len HL9.out.at_ 0
                      have HLEN := Lib.hid hlen
                      have HRD := Lib.hid (show ∀ W : World, Live wc W b ms mo t → Calls Tryz.prog 13 #[.pointer (some ⟨b, 0, none⟩), .int .i64 0] W fun e w' => ∃ v, e = .returned (.tuple #[v, .int .i64 0]) ∧ OwnS w' (Fr W) 5 1 v 512 (u8s (latS t 0)) ∧ Mod none_ W w' from fun W hW => read_ok hW.at_ 0 HMAY.out)
                      generalize latS t 0 = LB at *
                      clear hlen HMAY
                      go_wp2_with fail
                      refine (HRD.out _ HL9.out).mono ?_
                      rintro e w10 ⟨va, rfl, hoa, hma⟩
                      have HL10 := Lib.hid (HL9.out.keep hma)
                      obtain ⟨ga, ca, rfl, hga1, hga2⟩ := hoa.form1 (by omega)
                      have hga1 : w9.heap.size ≤ ga := hga1
                      have HOA := Lib.hid (ownS_only hoa)
                      have hb9 := HL9.out.at_.own_lt
                      have hm9 := HL9.out.mod.size
                      have HGA := Lib.hid (show ¬ dkOwn b ms mo ga ∧ wc.heap.size ≤ ga from ⟨fun e => by have := hb9 ga e; omega, by omega⟩)
                      clear hoa hma HL9 hb9 hm9 hga1
                      go_wp2_with fail
                      refine (HRD.out _ HL10.out).mono ?_
                      rintro e w11 ⟨vb, rfl, hob, hmb⟩
                      have HL11 := Lib.hid (HL10.out.keep hmb)
                      obtain ⟨gb, cb, rfl, hgb1, hgb2⟩ := hob.form1 (by omega)
                      have hgb1 : w10.heap.size ≤ gb := hgb1
                      have HOB := Lib.hid (ownS_only hob)
                      have HOA1 := Lib.hid (HOA.out.keep hmb (fun _ _ _ e => e))
                      have hab : ga < gb := by omega
                      clear hob hmb HL10 HOA hgb1 hga2
                      go_wp2_with fail
                      refine (show Calls Tryz.prog 14 #[.slice (some ⟨ga, 0, none⟩) 512 ca] w11 (fun e w' => e = .returned (.tuple #[]) ∧ (∃ l' : List UInt8, OwnS w' (· = ga) 5 1 (.slice (some ⟨ga, 0, none⟩) 512 ca) 512 (u8s l')) ∧ Mod (· = ga) w11 w') from by
                        have h := turn_bytes (l := LB) (c := ca) (g := ga) (by rw [HLEN.out]; exact HOA1.out) (by rw [HLEN.out]; omega)
                        rw [HLEN.out] at h
                        exact h).mono ?_
                      rintro e w12 ⟨rfl, ⟨LA, hoa⟩, hmt⟩
                      have HOA2 := Lib.hid hoa
                      have HOB2 := Lib.hid (HOB.out.keep hmt (fun k hk _ e => by omega))
                      have HL12 := Lib.hid (show Live wc w12 b ms mo t from ⟨HL11.out.at_.keep hmt (fun k hk e => HGA.out.1 (e ▸ hk)), HL11.out.mod.trans hmt (fun k e hk => by have := HGA.out.2; omega), HL11.out.own⟩)
                      have hgb3 := hmt.size
                      clear hoa hmt HL11 HOA1 HOB
                      go_wp2_with fail
                      refine (HRD.out _ HL12.out).mono ?_
                      rintro e w13 ⟨vc, rfl, hoc, hmc⟩
                      have HL13 := Lib.hid (HL12.out.keep hmc)
                      obtain ⟨gc, cc, rfl, hgc1, hgc2⟩ := hoc.form1 (by omega)
                      have hgc1 : w12.heap.size ≤ gc := hgc1
                      have HOC := Lib.hid (ownS_only hoc)
                      have HOA3 := Lib.hid (HOA2.out.keep hmc (fun _ _ _ e => e))
                      have HOB3 := Lib.hid (HOB2.out.keep hmc (fun _ _ _ e => e))
                      have hbc : gb < gc := by omega
                      clear hoc hmc HL12 HOA2 HOB2 hgc1 hgb3 hgb2
                      go_wp2_with fail
                      refine (show Calls Tryz.prog 15 #[.slice (some ⟨gb, 0, none⟩) 512 cb, .slice (some ⟨gc, 0, none⟩) 512 cc] w13 (fun e w' => e = .returned (.bool true) ∧ Mod none_ w13 w') from by
                        have h := same_any (l := LB) (l' := LB) (by rw [HLEN.out]; exact HOB3.out.rd) (by rw [HLEN.out]; exact HOC.out.rd) (by rw [HLEN.out]; omega)
                        rw [show decide (LB = LB) = true from decide_eq_true rfl] at h
                        exact h).mono ?_
                      rintro e w14 ⟨rfl, hms⟩
                      have HL14 := Lib.hid (HL13.out.keep hms)
                      have HOA4 := Lib.hid (HOA3.out.keep hms (fun _ _ _ e => e))
                      have HOB4 := Lib.hid (HOB3.out.keep hms (fun _ _ _ e => e))
                      have HOC4 := Lib.hid (HOC.out.keep hms (fun _ _ _ e => e))
                      clear hms HL13 HOA3 HOB3 HOC hgc2
                      go_wp2_with fail
                      have hma := (Mod.refl none_ w14).alloc (.cells #[.slice (some ⟨ga, 0, none⟩) 512 ca, .slice (some ⟨gb, 0, none⟩) 512 cb, .slice (some ⟨gc, 0, none⟩) 512 cc] 37)
                      have HRL := Lib.hid (show Rd (w14.alloc (.cells #[.slice (some ⟨ga, 0, none⟩) 512 ca, .slice (some ⟨gb, 0, none⟩) 512 cb, .slice (some ⟨gc, 0, none⟩) 512 cc] 37)) (Fr w14) 1 (.slice (some ⟨w14.heap.size, 0, none⟩) 3 3) 3 [.slice (some ⟨ga, 0, none⟩) 512 ca, .slice (some ⟨gb, 0, none⟩) 512 cb, .slice (some ⟨gc, 0, none⟩) 512 cc] from
                        ⟨_, _, rfl, Nat.le_refl _, rfl, fun _ => ⟨_, _, rfl, Nat.le_refl _, by simp, block_cells (xs := [.slice (some ⟨ga, 0, none⟩) 512 ca, .slice (some ⟨gb, 0, none⟩) 512 cb, .slice (some ⟨gc, 0, none⟩) 512 cc]) (heap_alloc_new w14 _)⟩⟩)
                      have HOWN := Lib.hid (own_three (HOA4.out.keep hma (fun _ _ _ e => e)) (HOB4.out.keep hma (fun _ _ _ e => e)) (HOC4.out.keep hma (fun _ _ _ e => e)))
                      have HL15 := Lib.hid (HL14.out.keep hma)
                      have HOV := Lib.hid (show ∀ k, OwnV [.slice (some ⟨ga, 0, none⟩) 512 ca, .slice (some ⟨gb, 0, none⟩) 512 cb, .slice (some ⟨gc, 0, none⟩) 512 cc] k → wc.heap.size ≤ k from fun k hk => by
                        have h1 := HGA.out.2
                        rcases own_three_v hk with e | e | e <;> omega)
                      clear hma
                      refine (apartB_any HRL.out HOWN.out (apt_three (by omega) (by omega) (by omega)) (by simp) (fun k _ => by omega)).mono ?_
                      rintro e w15 ⟨rfl, hm15⟩
                      have HM15 := Lib.hid (HL15.out.mod.trans hm15 (fun k e hk => by have := HOV.out k e; omega))
                      clear hm15 HRL HOWN HL15 HOA4 HOB4 HOC4 HL14
                      go_wp2_with fail
                      refine (awake_any _).mono ?_
                      rintro e w16 ⟨rfl, hm16⟩
                      have HM16 := Lib.hid (HM15.out.trans' hm16)
                      clear hm16
                      go_wp2_with fail
                      go_returns
                      exact ⟨rfl, HM16.out⟩
    · have hn : sec < 1 ∨ 8192 < sec := by omega
      have HS := Lib.hid hn
      clear hn hsec
      refine (new_no sec _ HS.out).mono ?_
      rintro e w' ⟨rfl, rfl⟩
      go_wp2_with fail
      refine (rf_new_no sec _ HS.out).mono ?_
      rintro e w' ⟨rfl, rfl⟩
      go_wp2_with fail
      refine (awake_any _).mono ?_
      rintro e w7 ⟨rfl, hm7⟩
      have HM7 := Lib.hid hm7
      clear hm7
      go_wp2_with fail
      go_returns
      exact ⟨rfl, HM7.out⟩

end Go.Proofs.YthbicfbhghcmkaaGreat
