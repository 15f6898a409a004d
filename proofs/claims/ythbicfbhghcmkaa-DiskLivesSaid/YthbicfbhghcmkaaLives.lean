/-
  DiskLives: the walk.
-/
import Derived.Test.YthbicfbhghcmkaaStep
import Derived.Test.YthbicfbhghcmkaaAwake
namespace Go.Proofs.Ythbicfbhghcmkaa
open Go Go.RowKit Go.SM

theorem do_size : (Try.prog.info? 31).map (·.size) = some 5 := by kernel_rfl

def doL (x : DoD) (fv : Value) : List Value := [.int .i64 x.op, .int .i64 x.sector, .int .i64 x.n, .int .u8 (x.byte.toNat : Int), fv]

theorem DoAt.cells {w : World} {D : Nat → Prop} {b o : Nat} {x : DoD} {fv : Value} (h : DoAt w D b o x) (hf : w.cell? ⟨b, o + 4, none⟩ = some fv) : ∀ (j : Nat) (u : Value), (doL x fv)[j]? = some u → w.cell? ⟨b, o + j, none⟩ = some u := by
  intro j u hu
  unfold doL at hu
  match j with
  | 0 => simp only [List.getElem?_cons_zero, Option.some.injEq] at hu; exact hu ▸ h.1
  | 1 => simp only [List.getElem?_cons_zero, List.getElem?_cons_succ, Option.some.injEq] at hu; exact hu ▸ h.2.1
  | 2 => simp only [List.getElem?_cons_zero, List.getElem?_cons_succ, Option.some.injEq] at hu; exact hu ▸ h.2.2.1
  | 3 => simp only [List.getElem?_cons_zero, List.getElem?_cons_succ, Option.some.injEq] at hu; exact hu ▸ h.2.2.2.1
  | 4 => simp only [List.getElem?_cons_zero, List.getElem?_cons_succ, Option.some.injEq] at hu; exact hu ▸ hf
  | n + 5 => simp at hu

set_option maxHeartbeats 8000000 in
set_option maxRecDepth 100000 in
theorem lives_walk (w : World) (D : Nat → Prop) (sec : Int) (v : Value) (xs : List DoD) (hx : RdDos w D v xs) (hD : ∀ k, D k → k < w.heap.size) :
    Calls Try.prog 4 #[.int .i64 sec, v] w fun e w' => e = .returned (.bool true) ∧ Mod none_ w w' := by
  obtain ⟨A, c, hv, hlc⟩ := hx.slice
  subst hv
  have HX := Lib.hid hx
  have HD := Lib.hid hD
  clear hx hD
  have key : ∃ (n0 : Nat) (ys : List DoD), Hid (RdDos w D (.slice A n0 c) ys) ∧ Hid (n0 = ys.length ∧ n0 ≤ 80) ∧ ((80 < xs.length ∧ n0 = 80) ∨ (xs.length ≤ 80 ∧ n0 = xs.length)) := by
    by_cases h80 : 80 < xs.length
    · exact ⟨80, xs.take 80, Lib.hid (HX.out.take (n := 80) (by omega)), Lib.hid (by rw [List.length_take]; omega), .inl ⟨h80, rfl⟩⟩
    · exact ⟨xs.length, xs, HX, Lib.hid ⟨rfl, by omega⟩, .inr ⟨by omega, rfl⟩⟩
  obtain ⟨n0, ys, HX0, HN0, hn0⟩ := key
  clear HX
  go_enter Try.func4, Try.ntmps4
  go_upto_if 10 with (fail)
  go_cut [1] (fun s1 wx => s1 = .slice A n0 c ∧ wx = w)
  case first =>
    rcases hn0 with ⟨h80, hn0⟩ | ⟨h80, hn0⟩
    · have d1 : decide ((80 : Int) < (xs.length : Int)) = true := by simp; omega
      have HNE := Lib.hid hn0
      clear hn0
      go_wp2_with fail
      go_meet
      exact ⟨by rw [HNE.out], rfl⟩
    · have d1 : decide ((80 : Int) < (xs.length : Int)) = false := by simp; omega
      have HNE := Lib.hid hn0
      clear hn0
      go_wp2_with fail
      go_meet
      exact ⟨by rw [HNE.out], rfl⟩
  case rest =>
    obtain ⟨rfl, rfl⟩ := hcut
    clear hn0
    go_wp2_with fail
    by_cases hsec : 1 ≤ sec ∧ sec ≤ 8192
    · refine (lv_new _ sec hsec (Mod.refl _ _)).mono ?_
      rintro e w1 ⟨b, ms, mo, rfl, h1⟩
      have HL1 := Lib.hid h1
      clear h1
      go_wp2_with fail
      refine (both_new _ sec hsec HL1.out).mono ?_
      rintro e w2 ⟨r, rfl, h2⟩
      have H2 := Lib.hid h2
      clear h2 HL1
      generalize newS sec = s0 at *
      obtain ⟨X, hX⟩ : ∃ X, dkOwn b ms mo = X := ⟨_, rfl⟩
      have h2 := H2.out
      rw [hX] at h2
      have H2 := Lib.hid h2
      clear h2 hX hsec
      go_wp2_with fail
      go_loopw [7] (fun i wr => ∃ (j : Nat) (s : DS), i = .int .i64 j ∧ j ≤ n0 ∧ Both wc wr b ms mo X r s) (fun i _ => n0 - (intOf i).toNat)
      case atStart => exact ⟨0, _, rfl, Nat.zero_le _, H2.out⟩
      case round =>
        obtain ⟨j, s, rfl, hj, hb⟩ := hrel
        have H := Lib.hid hb
        clear hb H2
        by_cases hlt : j < n0
        · have hln := HN0.out
          have hjy : j < ys.length := by omega
          obtain ⟨g, o, c', he, hDg, hgl, hat, hok⟩ := (HX0.out.keep H.out.live.mod (fun _ _ _ e => e)).at_ hjy
          simp only [Value.slice.injEq] at he
          obtain ⟨rfl, hne, rfl⟩ := he
          clear hne
          have HAT := Lib.hid hat
          have HOK := Lib.hid hok
          generalize ys[j] = x at *
          obtain ⟨fv, q4, hrf⟩ := HAT.out.2.2.2.2
          have HC := Lib.hid (HAT.out.cells q4)
          obtain ⟨FA, FC, hfv⟩ := hrf.slice
          subst hfv
          have d2 : decide ((j : Int) < (n0 : Int)) = true := by simpa using hlt
          have e2 : (j : Int) < (n0 : Int) := by omega
          have hj80 : j < 80 := by have := HN0.out; omega
          have HRF := Lib.hid hrf
          clear hat hok hDg hgl hrf hln
          by_cases hf : 1000 < x.fates.length
          · have d3 : decide ((1000 : Int) < (x.fates.length : Int)) = true := by simp; omega
            go_wp2_with fail
            refine (awake_any _).mono ?_
            rintro e w3 ⟨rfl, hm3⟩
            have HM3 := Lib.hid (H.out.live.mod.trans' hm3)
            clear hm3
            go_wp2_with fail
            go_returns
            exact ⟨rfl, HM3.out⟩
          · have d3 : decide ((1000 : Int) < (x.fates.length : Int)) = false := by simp; omega
            go_wp2_with (with_reducible refine at_ (o := ⟨some 44, _, _, _, _, _⟩) ?_)
            refine un (wpList_load rfl 31 _ rfl g (o + j * 5) rfl (doL x (.slice FA x.fates.length FC)) _ Try.underlying31 rfl HC.out (by rw [do_size]; rfl) ?_)
            go_frame
            go_wp2_with fail
            refine (show Calls Try.prog 17 #[.pointer (some ⟨b, 0, none⟩), .pointer (some ⟨r, 0, none⟩), doV x (.slice FA x.fates.length FC)] _ _ from step18 H.out x HOK.out.2.2.1 HRF.out HD.out (by omega)).mono ?_
            rintro e w3 ⟨rfl, h3⟩
            have H3 := Lib.hid h3
            clear h3 q4 d3
            generalize stepD s x = t at *
            go_wp2_with fail
            refine (down_any H3.out.live.at_).mono ?_
            rintro e w' ⟨rfl, rfl⟩
            go_wp2_with fail
            refine (rf_down H3.out.ref).mono ?_
            rintro e w' ⟨rfl, rfl⟩
            obtain ⟨dn, hdn⟩ : ∃ dn, t.down = dn := ⟨_, rfl⟩
            rw [hdn]
            clear hdn
            have dd : (dn != dn) = false := by simp
            go_wp2_with fail
            exact ⟨⟨j + 1, _, by go_num, by omega, H3.out⟩, by simp [intOf]; omega⟩
        · have d2 : decide ((j : Int) < (n0 : Int)) = false := by simpa using hlt
          have e2 : ¬ (j : Int) < (n0 : Int) := by omega
          have hle : ys.length ≤ 1000 := by have := HN0.out; omega
          have HXV := Lib.hid (show ∀ W : World, Both wc W b ms mo X r s → Calls Try.prog 20 #[.pointer (some ⟨b, 0, none⟩), .pointer (some ⟨r, 0, none⟩), .slice A n0 c] W fun e w' => e = .returned (.bool true) ∧ Both wc w' b ms mo X r s ∧ Mod none_ W w' from fun W hW => like_any hW (HX0.out.keep hW.live.mod (fun _ _ _ e => e)) hle)
          have HXW := Lib.hid (show ∀ W : World, Both wc W b ms mo X r (wakeS s []) → Calls Try.prog 20 #[.pointer (some ⟨b, 0, none⟩), .pointer (some ⟨r, 0, none⟩), .slice A n0 c] W fun e w' => e = .returned (.bool true) ∧ Both wc w' b ms mo X r (wakeS s []) ∧ Mod none_ W w' from fun W hW => like_any hW (HX0.out.keep hW.live.mod (fun _ _ _ e => e)) hle)
          go_wp2_with fail
          refine (HXV.out _ H.out).mono ?_
          rintro e w2 ⟨rfl, h2, _⟩
          have H2 := Lib.hid h2
          clear h2 H HXV
          go_wp2_with fail
          refine (lv_wake H2.out.live (D := none_) (ks := []) (Rd.nil_ _ _ _) (fun r hr _ _ => hr) _ rfl (by simp)).mono ?_
          rintro e w3 ⟨rfl, hl3, hm3⟩
          have HL3 := Lib.hid hl3
          have HR3 := Lib.hid (H2.out.half hm3)
          clear hl3 hm3 d2 e2
          go_wp2_with fail
          refine (rf_wake HR3.out (D := none_) (ks := []) (Rd.nil_ _ _ _) (fun r hr _ _ => hr) (by simp)).mono ?_
          rintro e w4 ⟨rfl, hr4, hm4⟩
          have H4 := Lib.hid (H2.out.turn HL3.out hr4 hm4)
          clear hr4 hm4 HL3 HR3 H2
          go_wp2_with fail
          refine (HXW.out _ H4.out).mono ?_
          rintro e w5 ⟨rfl, h5, _⟩
          have H5 := Lib.hid h5
          clear h5 H4 HXW
          go_wp2_with fail
          refine (awake_any _).mono ?_
          rintro e w7 ⟨rfl, hm7⟩
          have HM7 := Lib.hid (H5.out.live.mod.trans' hm7)
          clear hm7
          go_wp2_with fail
          go_returns
          exact ⟨rfl, HM7.out⟩
    · have hn : sec < 1 ∨ 8192 < sec := by omega
      have HS := Lib.hid hn
      clear hn hsec
      refine (new_no sec _ HS.out).mono ?_
      rintro e w' ⟨rfl, rfl⟩
      go_wp2_with fail
      refine (rf_new_no sec _ HS.out).mono ?_
      rintro e w' ⟨rfl, rfl⟩
      go_wp2_with fail
      refine (awake_any _).mono ?_
      rintro e w7 ⟨rfl, hm7⟩
      have HM7 := Lib.hid hm7
      clear hm7
      go_wp2_with fail
      go_returns
      exact ⟨rfl, HM7.out⟩

end Go.Proofs.Ythbicfbhghcmkaa
