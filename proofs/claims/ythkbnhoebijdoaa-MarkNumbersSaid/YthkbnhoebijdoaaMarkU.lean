/-
  MarkLives: the walk.
-/
import Derived.Test.YthkbnhoebijdoaaMarkT
import Derived.Test.YthkbnhoebijdoaaMarkG
namespace Go.Proofs.Ythkbnhoebijdoaa
open Go Go.RowKit Go.SM

theorem do_size : (Try.prog.info? 47).map (·.size) = some 8 := by kernel_rfl

def dmL (x : DoM) (fv : Value) : List Value := [.int .i64 x.op, .int .i64 x.n, .int .i64 x.m.seq, .int .i64 x.m.turn, .int .i64 x.m.oldest, .int .i64 x.m.mark, fv, .int .u8 (x.byte.toNat : Int)]

theorem DmAt.cells {w : World} {D : Nat → Prop} {b o : Nat} {x : DoM} {fv : Value} (h : DmAt w D b o x) (hf : w.cell? ⟨b, o + 6, none⟩ = some fv) : ∀ (j : Nat) (u : Value), (dmL x fv)[j]? = some u → w.cell? ⟨b, o + j, none⟩ = some u := by
  intro j u hu
  unfold dmL at hu
  match j with
  | 0 => simp only [List.getElem?_cons_zero, Option.some.injEq] at hu; exact hu ▸ h.c0
  | 1 => simp only [List.getElem?_cons_zero, List.getElem?_cons_succ, Option.some.injEq] at hu; exact hu ▸ h.c1
  | 2 => simp only [List.getElem?_cons_zero, List.getElem?_cons_succ, Option.some.injEq] at hu; exact hu ▸ h.c2
  | 3 => simp only [List.getElem?_cons_zero, List.getElem?_cons_succ, Option.some.injEq] at hu; exact hu ▸ h.c3
  | 4 => simp only [List.getElem?_cons_zero, List.getElem?_cons_succ, Option.some.injEq] at hu; exact hu ▸ h.c4
  | 5 => simp only [List.getElem?_cons_zero, List.getElem?_cons_succ, Option.some.injEq] at hu; exact hu ▸ h.c5
  | 6 => simp only [List.getElem?_cons_zero, List.getElem?_cons_succ, Option.some.injEq] at hu; exact hu ▸ hf
  | 7 => simp only [List.getElem?_cons_zero, List.getElem?_cons_succ, Option.some.injEq] at hu; exact hu ▸ h.c7
  | n + 8 => simp at hu

set_option maxHeartbeats 8000000 in
set_option maxRecDepth 100000 in
theorem lives_walk (w : World) (D : Nat → Prop) (sec : Int) (v : Value) (xs : List DoM) (hx : RdDms w D v xs) (hD : ∀ k, D k → k < w.heap.size) :
    Calls Try.prog 6 #[.int .i64 sec, v] w fun e w' => e = .returned (.bool true) ∧ Mod none_ w w' := by
  obtain ⟨A, c, hv, hlc⟩ := hx.slice
  subst hv
  have HX := Lib.hid hx
  have HD := Lib.hid hD
  clear hx hD
  have key : ∃ (n0 : Nat) (ys : List DoM), Hid (RdDms w D (.slice A n0 c) ys) ∧ Hid (n0 = ys.length ∧ n0 ≤ 40) ∧ ((40 < xs.length ∧ n0 = 40) ∨ (xs.length ≤ 40 ∧ n0 = xs.length)) := by
    by_cases h40 : 40 < xs.length
    · exact ⟨40, xs.take 40, Lib.hid (HX.out.take (n := 40) (by omega)), Lib.hid (by rw [List.length_take]; omega), .inl ⟨h40, rfl⟩⟩
    · exact ⟨xs.length, xs, HX, Lib.hid ⟨rfl, by omega⟩, .inr ⟨by omega, rfl⟩⟩
  obtain ⟨n0, ys, HX0, HN0, hn0⟩ := key
  clear HX
  have hp0 := Int.emod_nonneg sec (show (30 : Int) ≠ 0 by omega)
  have hp1 := Int.emod_lt_of_pos sec (show (0 : Int) < 30 by omega)
  obtain ⟨p, hp⟩ : ∃ p, sec % 30 = p := ⟨_, rfl⟩
  have HP := Lib.hid hp
  rw [hp] at hp0 hp1
  clear hp
  go_enter Try.func6, Try.ntmps6
  go_upto_if 16 with (fail)
  go_cut [1] (fun s1 wx => s1 = .slice A n0 c ∧ wx = w)
  case first =>
    rcases hn0 with ⟨h40, hn0⟩ | ⟨h40, hn0⟩
    · have d1 : decide ((40 : Int) < (xs.length : Int)) = true := by simp; omega
      have HNE := Lib.hid hn0
      clear hn0
      go_wp2_with fail
      go_meet
      exact ⟨by rw [HNE.out], rfl⟩
    · have d1 : decide ((40 : Int) < (xs.length : Int)) = false := by simp; omega
      have HNE := Lib.hid hn0
      clear hn0
      go_wp2_with fail
      go_meet
      exact ⟨by rw [HNE.out], rfl⟩
  case rest =>
    obtain ⟨rfl, rfl⟩ := hcut
    clear hn0
    go_wp2_with fail
    refine (pick_any sec 30 _ ⟨by omega, by omega⟩).mono ?_
    rintro e w' ⟨rfl, rfl⟩
    rw [HP.out]
    have hn1 : 1 ≤ 30 + p ∧ 30 + p ≤ 60 := by omega
    have hw1 : IntKind.i64.wrap (30 + p) = 30 + p := IntWalk.i64_in _ (by omega)
    go_wp2_with fail
    have key : ∃ n : Nat, (n : Int) = 30 + p ∧ n ≤ 60 := ⟨(30 + p).toNat, by omega, by omega⟩
    obtain ⟨n, hn, hn60⟩ := key
    rw [← hn]
    rw [← hn] at hw1
    have HN := Lib.hid hn
    have hn3 : 30 ≤ n := by omega
    clear hn hn1 hp0 hp1
    refine (lv_new _ n ⟨by omega, by omega⟩ (Mod.refl _ _)).mono ?_
    rintro e w1 ⟨b, ms, mo, rfl, h1⟩
    have HL1 := Lib.hid h1
    clear h1
    go_wp2_with fail
    refine (both_new _ n ⟨by omega, by omega⟩ HL1.out).mono ?_
    rintro e w2 ⟨r, rfl, h2⟩
    have H2 := Lib.hid h2
    clear h2 HL1
    have HNS := Lib.hid (show (newS (n : Int)).n = n from rfl)
    generalize newS (n : Int) = s0 at *
    obtain ⟨X, hX⟩ : ∃ X, dkOwn b ms mo = X := ⟨_, rfl⟩
    have h2 := H2.out
    rw [hX] at h2
    have H2 := Lib.hid h2
    clear h2 hX
    go_wp2_with fail
    go_loopw [8] (fun i wr => ∃ (j : Nat) (s : DS), i = .int .i64 j ∧ j ≤ n0 ∧ Both wc wr b ms mo X r s) (fun i _ => n0 - (intOf i).toNat)
    case atStart => exact ⟨0, _, rfl, Nat.zero_le _, H2.out⟩
    case round =>
      obtain ⟨j, s, rfl, hj, hb⟩ := hrel
      have H := Lib.hid hb
      clear hb H2
      by_cases hlt : j < n0
      · have hln := HN0.out
        have hjy : j < ys.length := by omega
        obtain ⟨g, o, c', he, hDg, hgl, hat, hok⟩ := (HX0.out.keep H.out.live.mod (fun _ _ _ e => e)).at_ hjy
        simp only [Value.slice.injEq] at he
        obtain ⟨rfl, hne, rfl⟩ := he
        clear hne
        have HAT := Lib.hid hat
        have HOK := Lib.hid hok
        generalize ys[j] = x at *
        obtain ⟨fv, q6, hrf⟩ := HAT.out.c6
        have HC := Lib.hid (HAT.out.cells q6)
        obtain ⟨FA, FC, hfv⟩ := hrf.slice
        subst hfv
        have d2 : decide ((j : Int) < (n0 : Int)) = true := by simpa using hlt
        have e2 : (j : Int) < (n0 : Int) := by omega
        have hj40 : j < 40 := by have := HN0.out; omega
        have HRF := Lib.hid hrf
        clear hat hok hDg hgl hrf hln
        by_cases hf : 1000 < x.fates.length
        · have d3 : decide ((1000 : Int) < (x.fates.length : Int)) = true := by simp; omega
          go_wp2_with fail
          refine (awake25 _).mono ?_
          rintro e w3 ⟨rfl, hm3⟩
          have HM3 := Lib.hid (H.out.live.mod.trans' hm3)
          clear hm3
          go_wp2_with fail
          go_returns
          exact ⟨rfl, HM3.out⟩
        · have d3 : decide ((1000 : Int) < (x.fates.length : Int)) = false := by simp; omega
          go_wp2_with (with_reducible refine at_ (o := ⟨some 51, _, _, _, _, _⟩) ?_)
          refine un (wpList_load rfl 47 _ rfl g (o + j * 8) rfl (dmL x (.slice FA x.fates.length FC)) _ Try.underlying47 rfl HC.out (by rw [do_size]; rfl) ?_)
          go_frame
          go_wp2_with fail
          refine (show Calls Try.prog 18 #[.pointer (some ⟨b, 0, none⟩), .pointer (some ⟨r, 0, none⟩), dmV x (.slice FA x.fates.length FC)] _ _ from step25 H.out x HOK.out.2.1 HRF.out HD.out (by omega)).mono ?_
          rintro e w3 ⟨rfl, h3⟩
          have H3 := Lib.hid h3
          clear h3 q6 d3
          go_wp2_with fail
          refine (read25 H3.out).mono ?_
          rintro e w4 ⟨rfl, h4, _⟩
          have H4 := Lib.hid h4
          clear h4
          go_wp2_with fail
          exact ⟨⟨j + 1, _, by go_num, by omega, H4.out⟩, by simp [intOf]; omega⟩
      · have d2 : decide ((j : Int) < (n0 : Int)) = false := by simpa using hlt
        have e2 : ¬ (j : Int) < (n0 : Int) := by omega
        go_wp2_with fail
        refine (lv_wake H.out.live (D := none_) (ks := []) (Rd.nil_ _ _ _) (fun r hr _ _ => hr) _ rfl (by simp)).mono ?_
        rintro e w3 ⟨rfl, hl3, hm3⟩
        have HL3 := Lib.hid hl3
        have HR3 := Lib.hid (H.out.half hm3)
        clear hl3 hm3 d2 e2
        go_wp2_with fail
        refine (rf_wake HR3.out (D := none_) (ks := []) (Rd.nil_ _ _ _) (fun r hr _ _ => hr) (by simp)).mono ?_
        rintro e w4 ⟨rfl, hr4, hm4⟩
        have H4 := Lib.hid (H.out.turn HL3.out hr4 hm4)
        clear hr4 hm4 HL3 HR3 H
        generalize wakeS s [] = t at *
        go_wp2_with fail
        refine (read25 H4.out).mono ?_
        rintro e w5 ⟨rfl, h5, _⟩
        have H5 := Lib.hid h5
        clear h5
        go_wp2_with fail
        go_loopw [9] (fun i wr => ∃ (k : Nat), i = .int .i64 k ∧ k ≤ n ∧ Both wc wr b ms mo X r t) (fun i _ => n - (intOf i).toNat)
        case atStart => exact ⟨0, rfl, Nat.zero_le _, H5.out⟩
        case round =>
          obtain ⟨k, rfl, hk, hb⟩ := hrel
          have H6 := Lib.hid hb
          clear hb H5 H4
          by_cases hlk : k < n
          · have d4 : decide ((k : Int) < (n : Int)) = true := by simpa using hlk
            have e4 : (k : Int) < (n : Int) := by omega
            go_wp2_with fail
            refine (read_t H6.out.live.at_ k).mono ?_
            rintro e w7 ⟨v7, rfl, ho7, hm7⟩
            have H7 := Lib.hid (H6.out.keep hm7)
            have HO7 := Lib.hid ho7.rd
            clear hm7 ho7
            go_wp2_with fail
            refine (rf_read H7.out.ref k).mono ?_
            rintro e w8 ⟨v8, rfl, ho8, hm8⟩
            have H8 := Lib.hid (H7.out.keep hm8)
            have HO8 := Lib.hid (HO7.out.keep hm8 (fun _ _ _ e => e))
            have HP8 := Lib.hid ho8.rd
            clear hm8 ho8
            have hlen : (readT t k).2.length ≤ 140737488355328 := by
              have := H6.out.len k
              unfold readT
              split <;> simp <;> omega
            generalize (readT t k).1 = E at *
            generalize (readT t k).2 = L at *
            have dE : (E != E) = false := by simp
            go_wp2_with fail
            refine (same_any HO8.out HP8.out hlen).mono ?_
            rintro e w9 ⟨rfl, hm9⟩
            rw [show decide (L = L) = true from decide_eq_true rfl]
            have H9 := Lib.hid (H8.out.keep hm9)
            clear hm9
            go_wp2_with fail
            exact ⟨⟨k + 1, by go_num, by omega, H9.out⟩, by simp [intOf]; omega⟩
          · have d4 : decide ((k : Int) < (n : Int)) = false := by simpa using hlk
            have e4 : ¬ (k : Int) < (n : Int) := by omega
            go_wp2_with fail
            refine (awake25 _).mono ?_
            rintro e w7 ⟨rfl, hm7⟩
            have HM7 := Lib.hid (H6.out.live.mod.trans' hm7)
            clear hm7
            go_wp2_with fail
            go_returns
            exact ⟨rfl, HM7.out⟩

end Go.Proofs.Ythkbnhoebijdoaa
