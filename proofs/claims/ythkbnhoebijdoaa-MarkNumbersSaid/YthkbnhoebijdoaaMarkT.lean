/-
  MarkLives: a step.
-/
import Derived.Test.YthkbnhoebijdoaaMarkS
namespace Go.Proofs.Ythkbnhoebijdoaa
open Go Go.RowKit Go.SM

def stepM (s : DS) (x : DoM) : DS :=
  if x.op % 8 = 0 then (fmT s).2 else if x.op % 8 = 1 then armS s (x.n % 60) else if x.op % 8 = 2 then wakeS s x.fates else if x.op % 8 = 3 then rawS s x else (mwT s x.m).2

set_option maxHeartbeats 8000000 in
set_option maxRecDepth 100000 in
theorem step25 {w0 w : World} {b ms mo r : Nat} {X D : Nat → Prop} {s : DS} (h : Both w0 w b ms mo X r s) (x : DoM) (hxn : I64 x.n) {fv : Value} (hf : Rd w D 1 fv x.fates.length (ints x.fates)) (hD : ∀ k, D k → k < w0.heap.size) (hlen : x.fates.length ≤ 1000) :
    Calls Try.prog 18 #[.pointer (some ⟨b, 0, none⟩), .pointer (some ⟨r, 0, none⟩), dmV x fv] w fun e w' => e = .returned (.bool true) ∧ Both w0 w' b ms mo X r (stepM s x) := by
  obtain ⟨FA, FC, rfl⟩ := hf.slice
  unfold dmV
  have H := Lib.hid h
  have HF := Lib.hid hf
  have HD := Lib.hid hD
  clear h hf hD
  go_enter Try.func18, Try.ntmps18
  go_wp2_with (with_reducible refine at_ (o := ⟨some 5, .box _ _, _, _, _, _⟩) ?_)
  refine un (wpList_box rfl 47 _ rfl _ rfl ?_)
  intro w1 g1 hb1 hm1 hs1
  have HX1 := Lib.hid (show DmB w1 g1 x (.slice FA x.fates.length FC) from ⟨_, hb1⟩)
  have H1 := Lib.hid (H.out.guard hm1)
  have HX := Lib.hid (show (fun k => X k ∨ (w.heap.size ≤ k ∧ k < w1.heap.size)) g1 from .inr ⟨hs1, blk_lt hb1⟩)
  have HXX := Lib.hid (show ∀ k, X k → (fun k => X k ∨ (w.heap.size ≤ k ∧ k < w1.heap.size)) k from fun k e => .inl e)
  have HSB := Lib.hid H.out.sub
  have HF1 := Lib.hid (HF.out.keep hm1 (fun _ _ _ e => e))
  have HG1 := Lib.hid (show ¬ dkOwn b ms mo g1 ∧ w0.heap.size ≤ g1 from ⟨fun e => by have := H.out.live.at_.own_lt g1 e; omega, by have := H.out.base; omega⟩)
  generalize (fun k => X k ∨ (w.heap.size ≤ k ∧ k < w1.heap.size)) = Y at *
  clear hb1 hm1 hs1 H HF
  have q0 := HX1.out.c0
  have q1 := HX1.out.c1
  have q6 := HX1.out.c6
  go_frame
  go_wp2_with fail
  refine (pick_any x.op 8 _ ⟨by omega, by omega⟩).mono ?_
  rintro e w' ⟨rfl, rfl⟩
  have hp0 := Int.emod_nonneg x.op (show (8 : Int) ≠ 0 by omega)
  have hp8 := Int.emod_lt_of_pos x.op (show (0 : Int) < 8 by omega)
  have hst : stepM s x = if x.op % 8 = 0 then (fmT s).2 else if x.op % 8 = 1 then armS s (x.n % 60) else if x.op % 8 = 2 then wakeS s x.fates else if x.op % 8 = 3 then rawS s x else (mwT s x.m).2 := rfl
  obtain ⟨p, hp⟩ : ∃ p, x.op % 8 = p := ⟨_, rfl⟩
  rw [hp] at hp0 hp8 hst ⊢
  have HST := Lib.hid hst
  clear hp hst
  by_cases p0 : p = 0
  · subst p0
    have HS := Lib.hid (show stepM s x = (fmT s).2 by rw [HST.out, if_pos rfl])
    go_wp2_with fail
    refine (mk_format H1.out.live).mono ?_
    rintro e w2 ⟨rfl, hl2, hm2⟩
    have HL2 := Lib.hid hl2
    have HR2 := Lib.hid (H1.out.half hm2)
    clear hl2 hm2
    go_wp2_with fail
    refine (rm_format HR2.out HL2.out.mod.size).mono ?_
    rintro e w3 ⟨rfl, hr3, hm3⟩
    have H3 := Lib.hid (H1.out.turn HL2.out hr3 hm3)
    clear hr3 hm3
    go_wp2_with fail
    go_returns
    rw [HS.out]
    exact ⟨rfl, H3.out.back HXX.out HSB.out⟩
  · have dp0 : (p == 0) = false := by simpa using p0
    by_cases p1 : p = 1
    · subst p1
      have HS := Lib.hid (show stepM s x = armS s (x.n % 60) by rw [HST.out, if_neg (by omega), if_pos rfl])
      have hn0 := Int.emod_nonneg x.n (show (60 : Int) ≠ 0 by omega)
      have hn1 := Int.emod_lt_of_pos x.n (show (0 : Int) < 60 by omega)
      go_wp2_with fail
      refine (pick_any x.n 60 _ ⟨by omega, by omega⟩).mono ?_
      rintro e w' ⟨rfl, rfl⟩
      go_wp2_with fail
      refine (lv_arm H1.out.live (x.n % 60) _ rfl (by omega)).mono ?_
      rintro e w2 ⟨rfl, hl2, hm2⟩
      have HL2 := Lib.hid hl2
      have HR2 := Lib.hid (H1.out.half hm2)
      have HX2 := Lib.hid (HX1.out.keep hm2 HG1.out.1)
      have q1' := HX2.out.c1
      clear hl2 hm2 q0 q1 q6
      go_wp2_with fail
      refine (pick_any x.n 60 _ ⟨by omega, by omega⟩).mono ?_
      rintro e w' ⟨rfl, rfl⟩
      go_wp2_with fail
      refine (rf_arm HR2.out (x.n % 60) (by omega)).mono ?_
      rintro e w3 ⟨rfl, hr3, hm3⟩
      have H3 := Lib.hid (H1.out.turn HL2.out hr3 hm3)
      clear hr3 hm3
      go_wp2_with fail
      go_returns
      rw [HS.out]
      exact ⟨rfl, H3.out.back HXX.out HSB.out⟩
    · have dp1 : (p == 1) = false := by simpa using p1
      by_cases p2 : p = 2
      · subst p2
        have HS := Lib.hid (show stepM s x = wakeS s x.fates by rw [HST.out, if_neg (by omega), if_neg (by omega), if_pos rfl])
        go_wp2_with fail
        refine (lv_wake H1.out.live HF1.out (fun k hk _ e => by have h1 := HD.out k hk; have h2 := H1.out.live.own; rcases e with rfl | rfl | rfl <;> omega) _ rfl (by omega)).mono ?_
        rintro e w2 ⟨rfl, hl2, hm2⟩
        have HL2 := Lib.hid hl2
        have HR2 := Lib.hid (H1.out.half hm2)
        have HX2 := Lib.hid (HX1.out.keep hm2 HG1.out.1)
        have HF2 := Lib.hid (HF1.out.keep hm2 (fun k hk _ e => by have h1 := HD.out k hk; have h2 := H1.out.live.own; rcases e with rfl | rfl | rfl <;> omega))
        have q6' := HX2.out.c6
        clear hl2 hm2 q0 q1 q6
        go_wp2_with fail
        refine (rf_wake HR2.out HF2.out (fun k hk _ e => by have h1 := HD.out k hk; have h2 := e.1; omega) (by omega)).mono ?_
        rintro e w3 ⟨rfl, hr3, hm3⟩
        have H3 := Lib.hid (H1.out.turn HL2.out hr3 hm3)
        clear hr3 hm3
        go_wp2_with fail
        go_returns
        rw [HS.out]
        exact ⟨rfl, H3.out.back HXX.out HSB.out⟩
      · have dp2 : (p == 2) = false := by simpa using p2
        by_cases p3 : p = 3
        · subst p3
          have HS := Lib.hid (show stepM s x = rawS s x by rw [HST.out, if_neg (by omega), if_neg (by omega), if_neg (by omega), if_pos rfl])
          have q2 := HX1.out.c2
          have q3 := HX1.out.c3
          have q4 := HX1.out.c4
          have q5 := HX1.out.c5
          have q7 := HX1.out.c7
          go_wp2_with fail
          refine (show Calls Try.prog 37 #[.pointer (some ⟨b, 0, none⟩), .pointer (some ⟨r, 0, none⟩), dmV x (.slice FA x.fates.length FC)] _ _ from raw25 H1.out x hxn (.slice FA x.fates.length FC)).mono ?_
          rintro e w3 ⟨rfl, hh⟩
          have H3 := Lib.hid hh
          clear hh
          go_wp2_with fail
          go_returns
          rw [HS.out]
          exact ⟨rfl, H3.out.back HXX.out HSB.out⟩
        · have dp3 : (p == 3) = false := by simpa using p3
          have HS := Lib.hid (show stepM s x = (mwT s x.m).2 by rw [HST.out, if_neg (by omega), if_neg (by omega), if_neg (by omega), if_neg (by omega)])
          clear q0 q1 q6
          go_wp2_with fail
          have hload : ∀ W : World, DmB W g1 x (.slice FA x.fates.length FC) → W.cell? ⟨g1, 2, none⟩ = some (.int .i64 x.m.seq) ∧ W.cell? ⟨g1, 3, none⟩ = some (.int .i64 x.m.turn) ∧ W.cell? ⟨g1, 4, none⟩ = some (.int .i64 x.m.oldest) ∧ W.cell? ⟨g1, 5, none⟩ = some (.int .i64 x.m.mark) := fun W hW => ⟨hW.c2, hW.c3, hW.c4, hW.c5⟩
          have HLO := Lib.hid hload
          clear hload
          have h1 := HLO.out w1 HX1.out
          go_region_held3 (fun W : World => W.cell? ⟨g1, 2, none⟩ = some (.int .i64 x.m.seq) ∧ W.cell? ⟨g1, 3, none⟩ = some (.int .i64 x.m.turn) ∧ W.cell? ⟨g1, 4, none⟩ = some (.int .i64 x.m.oldest) ∧ W.cell? ⟨g1, 5, none⟩ = some (.int .i64 x.m.mark))
            (first | exact h1 | exact hS2 | exact hS3 | exact hS4)
            (first | (go_at_call 13; refine (show Calls Try.prog 13 #[.pointer (some ⟨b, 0, none⟩), mV x.m] _ _ from mk_write (H1.out.live.keep ((Mod.refl none_ w1).drew)) x.m).mono ?_; rintro e w2 ⟨rfl, hl2, hm2⟩; have hx2 := HX1.out.keep hm2.of_drew HG1.out.1; have hS2 := HLO.out w2 hx2)
                   | (go_at_call 28; refine (show Calls Try.prog 28 #[mV x.m] _ (fun e w' => e = .returned (.agg #[.int .i64 x.m.seq, .int .i64 x.m.turn, .int .i64 x.m.oldest, .int .i64 x.m.mark]) ∧ Mod none_ _ w') from of_any x.m _).mono ?_; rintro e w3 ⟨rfl, hm3⟩; have hx3 := hx2.keep hm3 (fun e => e); have hS3 := HLO.out w3 hx3)
                   | (go_at_call 38; refine (show Calls Try.prog 38 #[.pointer (some ⟨r, 0, none⟩), mV x.m] _ _ from rm_write ((H1.out.half hm2.of_drew).keep hm3 (fun _ e => e.elim)) (Nat.le_trans hl2.mod.size hm3.size) x.m).mono ?_; rintro e w4 ⟨rfl, hr4, hm4⟩; have hS4 := HLO.out w4 (hx3.keep hm4 (fun e => e.2 HX.out))))
          have H4 := Lib.hid (H1.out.turn (hl2.keep hm3) hr4 hm4)
          clear hl2 hm2 hx2 hS2 hm3 hx3 hS3 hr4 hm4 hS4 h1
          go_wp2_with fail
          go_returns
          rw [HS.out]
          exact ⟨rfl, H4.out.back HXX.out HSB.out⟩

end Go.Proofs.Ythkbnhoebijdoaa
