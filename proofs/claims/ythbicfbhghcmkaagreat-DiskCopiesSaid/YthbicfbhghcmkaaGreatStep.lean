/-
  DiskLives: a step.
-/
import Derived.Test.YthbicfbhghcmkaaGreatLentG
import Derived.Test.YthbicfbhghcmkaaGreatLentK
import Derived.Test.YthbicfbhghcmkaaGreatLentB
import Derived.Test.YthbicfbhghcmkaaGreatLike
namespace Go.Proofs.YthbicfbhghcmkaaGreat
open Go Go.RowKit Go.SM

def stepD (s : DS) (x : DoD) : DS :=
  if x.op % 8 < 3 then (writeT s x.sector (bytesD x)).2 else if x.op % 8 = 3 then (syncT s).2 else if x.op % 8 = 4 then armS s x.n else if x.op % 8 < 7 then s else wakeS s x.fates

theorem rd_pre {w : World} {D : Nat → Prop} {e : TypeId} {g c n k : Nat} {xs : List Value} (h : OwnS w D e 1 (.slice (some ⟨g, 0, none⟩) n c) n xs) (hk : k ≤ n) : Rd w D 1 (.slice (some ⟨g, 0, none⟩) k c) k (xs.take k) := by
  have hlen := h.row.1
  obtain ⟨A, c', he, hc, hl, hcell⟩ := h.rd
  cases he
  refine ⟨_, _, rfl, by omega, by rw [List.length_take]; omega, fun h0 => ?_⟩
  obtain ⟨b, o, hA, hD, hb, hx⟩ := hcell (by omega)
  refine ⟨b, o, hA, hD, hb, fun i u hu => hx i u ?_⟩
  have hi : i < k := by have := (List.getElem?_eq_some_iff.1 hu).1; rw [List.length_take] at this; omega
  rwa [List.getElem?_take_of_lt hi] at hu
theorem ownS_only {w : World} {D : Nat → Prop} {e : TypeId} {g c n : Nat} {xs : List Value} (h : OwnS w D e 1 (.slice (some ⟨g, 0, none⟩) n c) n xs) : OwnS w (· = g) e 1 (.slice (some ⟨g, 0, none⟩) n c) n xs :=
  ⟨h.row, fun g' hg' => by simp [Value.ownBlock] at hg'; exact hg'.symm⟩

theorem lv_sync_b {w0 w : World} {b ms mo : Nat} {s : DS} (h : Live w0 w b ms mo s) :
    Calls Tryz.prog 19 #[.pointer (some ⟨b, 0, none⟩)] w fun e w' => e = .returned (.int .i64 (syncT s).1) ∧ Live w0 w' b ms mo (syncT s).2 ∧ Mod (dkOwn b ms mo) w w' :=
  (sync_t h.at_).mono fun _ _ ⟨he, hd, hm⟩ => ⟨he, h.turn hd hm, hm⟩

theorem lv_write_b {w0 w : World} {b ms mo : Nat} {s : DS} (h : Live w0 w b ms mo s) (n : Int) {D : Nat → Prop} {v : Value} {l : List UInt8} (hx : Rd w D 1 v l.length (u8s l)) :
    Calls Tryz.prog 17 #[.pointer (some ⟨b, 0, none⟩), .int .i64 n, v] w fun e w' => e = .returned (.int .i64 (writeT s n l).1) ∧ Live w0 w' b ms mo (writeT s n l).2 ∧ Mod (dkOwn b ms mo) w w' :=
  (write_t h.at_ n hx).mono fun _ _ ⟨he, hd, hm⟩ => ⟨he, h.turn hd hm, hm⟩

theorem bytesD_len (x : DoD) : (bytesD x).length ≤ 512 := by
  unfold bytesD
  split
  · rw [List.length_take, fullB_length]; omega
  · rw [fullB_length]; omega

set_option maxHeartbeats 8000000 in
set_option maxRecDepth 100000 in
theorem step18 {w0 w : World} {b ms mo r : Nat} {X : XS} {D : Nat → Prop} {s : DS} (h : Both w0 w b ms mo X r s) (x : DoD) (hxn : I64 x.n) {fv : Value} (hf : Rd w D 1 fv x.fates.length (ints x.fates)) (hD : ∀ k, D k → k < w0.heap.size) (hlen : x.fates.length ≤ 1000) :
    Calls Tryz.prog 8 #[.pointer (some ⟨b, 0, none⟩), .pointer (some ⟨r, 0, none⟩), doV x fv] w fun e w' => e = .returned (.bool true) ∧ Both w0 w' b ms mo X r (stepD s x) ∧ Mod (BM w0 b ms mo X) w w' := by
  obtain ⟨FA, FC, rfl⟩ := hf.slice
  unfold doV
  have H := Lib.hid (Bth.start h)
  have HSB := Lib.hid (And.intro h.sub h.zb)
  have HF := Lib.hid hf
  have HD := Lib.hid hD
  clear h hf hD
  go_enter Tryz.func8, Tryz.ntmps8
  go_wp2_with (with_reducible refine at_ (o := ⟨some 5, .box _ _, _, _, _, _⟩) ?_)
  refine un (wpList_box rfl 31 _ rfl _ rfl ?_)
  intro w1 g1 hb1 hm1 hs1
  have HX1 := Lib.hid (show DoB w1 g1 x (.slice FA x.fates.length FC) from ⟨_, hb1⟩)
  have HM1 := Lib.hid hm1
  have H1 := Lib.hid (H.out.guard hm1)
  have HF1 := Lib.hid (HF.out.keep hm1 (fun _ _ _ e => e))
  have HG1 := Lib.hid (show ¬ dkOwn b ms mo g1 ∧ w0.heap.size ≤ g1 from ⟨fun e => by have := H.out.live.at_.own_lt g1 e; omega, by have := H.out.base; omega⟩)
  have HGX := Lib.hid (show (XS.mk (fun k => X k ∨ (w.heap.size ≤ k ∧ k < w1.heap.size)) X.z).x g1 from .inr ⟨hs1, blk_lt hb1⟩)
  generalize (XS.mk (fun k => X k ∨ (w.heap.size ≤ k ∧ k < w1.heap.size)) X.z) = Y at *
  clear hb1 hm1 hs1 HF
  have q0 := HX1.out.c0
  go_frame
  go_wp2_with fail
  refine (pick_any x.op 8 _ ⟨by omega, by omega⟩).mono ?_
  rintro e w' ⟨rfl, rfl⟩
  have hp0 := Int.emod_nonneg x.op (show (8 : Int) ≠ 0 by omega)
  have hp8 := Int.emod_lt_of_pos x.op (show (0 : Int) < 8 by omega)
  have hst : stepD s x = if x.op % 8 < 3 then (writeT s x.sector (bytesD x)).2 else if x.op % 8 = 3 then (syncT s).2 else if x.op % 8 = 4 then armS s x.n else if x.op % 8 < 7 then s else wakeS s x.fates := rfl
  obtain ⟨p, hp⟩ : ∃ p, x.op % 8 = p := ⟨_, rfl⟩
  rw [hp] at hp0 hp8 hst ⊢
  have HST := Lib.hid hst
  clear hp hst q0
  have hpp : p < 3 ∨ p = 3 ∨ p = 4 ∨ (p = 5 ∨ p = 6) ∨ p = 7 := by omega
  rcases hpp with p3 | rfl | rfl | p56 | rfl
  · have HS := Lib.hid (show stepD s x = (writeT s x.sector (bytesD x)).2 by rw [HST.out, if_pos p3])
    have hp3 : p = 0 ∨ p = 1 ∨ p = 2 := by omega
    have q0 := HX1.out.c0
    have q1 := HX1.out.c1
    have q2 := HX1.out.c2
    have q3 := HX1.out.c3
    have q4 := HX1.out.c4
    rcases hp3 with rfl | rfl | rfl
    all_goals
      clear p3
      go_wp2_with fail
      refine (show Calls Tryz.prog 21 #[doV x (.slice FA x.fates.length FC)] _ _ from bytes_any x _ _).mono ?_
      rintro e w2 ⟨v2, rfl, hr2, hm2⟩
      obtain ⟨A2, c2, rfl⟩ := hr2.slice
      have HLB := Lib.hid (bytesD_len x)
      generalize bytesD x = L at *
      have H2 := Lib.hid (H1.out.guard hm2)
      have HX2 := Lib.hid (HX1.out.keep hm2 (fun e => e))
      have HGX2 := Lib.hid (show (XS.mk (fun k => Y k ∨ (w1.heap.size ≤ k ∧ k < w2.heap.size)) Y.z).x g1 from .inl HGX.out)
      have HR2 := Lib.hid (hr2.mono (D' := fun k => w1.heap.size ≤ k ∧ k < w2.heap.size) (fun k hk hl => ⟨hk, hl⟩))
      have HN2 := Lib.hid (show ∀ k, (fun k => w1.heap.size ≤ k ∧ k < w2.heap.size) k → k < w2.heap.size ∧ (XS.mk (fun k => Y k ∨ (w1.heap.size ≤ k ∧ k < w2.heap.size)) Y.z).x k ∧ ¬ dkOwn b ms mo k from fun k hk => ⟨hk.2, .inr hk, fun e => by have := H1.out.live.at_.own_lt k e; omega⟩)
      generalize (fun k => w1.heap.size ≤ k ∧ k < w2.heap.size) = E at *
      generalize (XS.mk (fun k => Y k ∨ (w1.heap.size ≤ k ∧ k < w2.heap.size)) Y.z) = Z at *
      clear hr2 hm2 q0 q1 q2 q3 q4 H1 HX1 HGX
      go_wp2_with fail
      refine (lent_any HR2.out (by have := HLB.out; omega)).mono ?_
      rintro e w3 ⟨g3, c3, rfl, ho3, hm3⟩
      have hg3 : w2.heap.size ≤ g3 ∧ g3 < w3.heap.size := by
        obtain ⟨g', c', he, h3, h4⟩ := ho3.form1 (by omega)
        cases he
        exact ⟨h3, h4⟩
      have HO3 := Lib.hid (ownS_only ho3)
      have HR3 := Lib.hid (HR2.out.keep hm3 (fun _ _ _ e => e))
      have H3 := Lib.hid (H2.out.guard hm3)
      have HX3 := Lib.hid (HX2.out.keep hm3 (fun e => e))
      have HN3 := Lib.hid (show ∀ k, E k → (XS.mk (fun k => Z k ∨ (w2.heap.size ≤ k ∧ k < w3.heap.size)) Z.z).x k ∧ ¬ dkOwn b ms mo k ∧ k ≠ g3 from fun k hk => ⟨.inl (HN2.out k hk).2.1, (HN2.out k hk).2.2, fun e => by have := (HN2.out k hk).1; omega⟩)
      have HG3 := Lib.hid (show ((XS.mk (fun k => Z k ∨ (w2.heap.size ≤ k ∧ k < w3.heap.size)) Z.z).x g3 ∧ ¬ (XS.mk (fun k => Z k ∨ (w2.heap.size ≤ k ∧ k < w3.heap.size)) Z.z).z g3 ∧ ¬ dkOwn b ms mo g3 ∧ w0.heap.size ≤ g3) ∧ w.heap.size ≤ g3 from ⟨⟨.inr hg3, fun e => by have := H2.out.xb g3 (H2.out.zb g3 e); omega, fun e => by have := H2.out.live.at_.own_lt g3 e; omega, by have := H2.out.base; omega⟩, by have := H2.out.base'; omega⟩)
      have HGX3 := Lib.hid (show (XS.mk (fun k => Z k ∨ (w2.heap.size ≤ k ∧ k < w3.heap.size)) Z.z).x g1 from .inl HGX2.out)
      generalize (XS.mk (fun k => Z k ∨ (w2.heap.size ≤ k ∧ k < w3.heap.size)) Z.z) = V at *
      clear ho3 hm3 hg3 H2 HX2 HGX2 HR2 HN2
      have HP3 := Lib.hid (show Rd w3 (· = g3) 1 (.slice (some ⟨g3, 0, none⟩) L.length c3) L.length (u8s L) by
        have h := rd_pre (k := L.length) HO3.out (by omega)
        rwa [u8s_append, List.take_left' (by simp)] at h)
      go_wp2_with fail
      have q1 := HX3.out.c1
      obtain ⟨E1, hE1⟩ : ∃ E1, (writeT s x.sector L).1 = E1 := ⟨_, rfl⟩
      obtain ⟨t, ht⟩ : ∃ t, (writeT s x.sector L).2 = t := ⟨_, rfl⟩
      have HC4 := Lib.hid (show ∀ W : World, Live w0 W b ms mo s → Rd W (· = g3) 1 (.slice (some ⟨g3, 0, none⟩) L.length c3) L.length (u8s L) → Calls Tryz.prog 17 #[.pointer (some ⟨b, 0, none⟩), .int .i64 x.sector, .slice (some ⟨g3, 0, none⟩) L.length c3] W fun e w' => e = .returned (.int .i64 E1) ∧ Live w0 w' b ms mo t ∧ Mod (dkOwn b ms mo) W w' from fun W h1 h2 => by
        have h := lv_write_b h1 x.sector h2
        rw [hE1, ht] at h
        exact h)
      have HC5 := Lib.hid (show ∀ W : World, RefIs W w0.heap.size V r s → Rd W E 1 (.slice A2 L.length c2) L.length (u8s L) → Calls Tryz.prog 23 #[.pointer (some ⟨r, 0, none⟩), .int .i64 x.sector, .slice A2 L.length c2] W fun e w' => e = .returned (.int .i64 E1) ∧ RefIs w' w0.heap.size V r t ∧ Mod (RM w0.heap.size V) W w' from fun W h1 h2 => by
        have h := rf_write h1 x.sector h2 (fun k hk _ e => e.2 (HN3.out k hk).1)
        rw [hE1, ht] at h
        exact h)
      have HS' := Lib.hid (show stepD s x = t by rw [HS.out, ht])
      clear hE1 ht
      have dE : (E1 == E1) = true := by simp
      go_region_held3 (fun W : World => W.cell? ⟨g1, 1, none⟩ = some (.int .i64 x.sector))
        (first | exact q1 | exact hS4 | exact hS5 | exact hS6)
        (first | (go_at_call 17; refine (HC4.out _ (H3.out.live.keep ((Mod.refl none_ w3).drew)) (HP3.out.keep ((Mod.refl none_ w3).drew) (fun _ _ _ e => e))).mono ?_; rintro e w4 ⟨rfl, hl4, hm4⟩; have hr4 := HR3.out.keep hm4.of_drew (fun k hk _ e => (HN3.out k hk).2.1 e); have ho4 := HO3.out.keep hm4.of_drew (fun k hk _ e => HG3.out.1.2.2.1 (hk ▸ e)); have hS4 := (HX3.out.keep hm4.of_drew HG1.out.1).c1)
               | (go_at_call 23; refine (HC5.out _ (H3.out.half hm4.of_drew) hr4).mono ?_; rintro e w5 ⟨rfl, hf5, hm5⟩; have hr5 := hr4.keep hm5 (fun k hk _ e => e.2 (HN3.out k hk).1); have ho5 := ho4.keep hm5 (fun k hk _ e => e.2 (hk ▸ HG3.out.1.1)); have hS5 := hm5.cell_eq hS4 (fun e => e.2 HGX3.out))
               | (go_at_call 24; refine (kept_any ho5.rd hr5 (by have := HLB.out; omega)).mono ?_; rintro e w6 ⟨rfl, hm6⟩; have ho6 := ho5.keep hm6 (fun _ _ _ e => e); have hS6 := hm6.cell_eq hS5 (fun e => e)))
      have H6 := Lib.hid ((H3.out.turn hl4 hm4.of_drew hf5 hm5).keep hm6)
      have HO6 := Lib.hid ho6
      clear hl4 hm4 hr4 ho4 hS4 hf5 hm5 hr5 ho5 hS5 hm6 ho6 hS6 q1 H3 HO3 HR3
      go_wp2_with fail
      refine (over_any HO6.out (by have := HLB.out; omega)).mono ?_
      rintro e w7 ⟨rfl, hm7⟩
      have H7 := Lib.hid (H6.out.other hm7 HG3.out.1 HG3.out.2)
      clear hm7
      go_wp2_with fail
      go_returns
      rw [HS'.out]
      exact ⟨rfl, H7.out.fin HSB.out⟩
  · have HS := Lib.hid (show stepD s x = (syncT s).2 by rw [HST.out, if_neg (by omega), if_pos rfl])
    go_wp2_with fail
    refine (lv_sync_b H1.out.live).mono ?_
    rintro e w2 ⟨rfl, hl2, hm2⟩
    have HL2 := Lib.hid hl2
    have HM2 := Lib.hid hm2
    have HR2 := Lib.hid (H1.out.half hm2)
    clear hl2 hm2
    go_wp2_with fail
    refine (rf_sync HR2.out).mono ?_
    rintro e w3 ⟨rfl, hr3, hm3⟩
    have H3 := Lib.hid (H1.out.turn HL2.out HM2.out hr3 hm3)
    clear hr3 hm3
    generalize (syncT s).1 = E at *
    have dE : (E == E) = true := by simp
    go_wp2_with fail
    go_returns
    rw [HS.out]
    exact ⟨rfl, H3.out.fin HSB.out⟩
  · have HS := Lib.hid (show stepD s x = armS s x.n by rw [HST.out, if_neg (by omega), if_neg (by omega), if_pos rfl])
    have q2 := HX1.out.c2
    go_wp2_with fail
    refine (lv_arm H1.out.live x.n _ rfl hxn.2).mono ?_
    rintro e w2 ⟨rfl, hl2, hm2⟩
    have HL2 := Lib.hid hl2
    have HM2 := Lib.hid hm2
    have HR2 := Lib.hid (H1.out.half hm2)
    have HX2 := Lib.hid (HX1.out.keep hm2 HG1.out.1)
    have q2' := HX2.out.c2
    clear hl2 hm2 q2
    go_wp2_with fail
    refine (rf_arm HR2.out x.n hxn.2).mono ?_
    rintro e w3 ⟨rfl, hr3, hm3⟩
    have H3 := Lib.hid (H1.out.turn HL2.out HM2.out hr3 hm3)
    clear hr3 hm3
    go_wp2_with fail
    go_returns
    rw [HS.out]
    exact ⟨rfl, H3.out.fin HSB.out⟩
  · have HS := Lib.hid (show stepD s x = s by rw [HST.out, if_neg (by omega), if_neg (by omega), if_neg (by omega), if_pos (by omega)])
    have q1 := HX1.out.c1
    rcases p56 with rfl | rfl
    all_goals
      go_wp2_with fail
      refine (read_t H1.out.live.at_ x.sector).mono ?_
      rintro e w3 ⟨v3, rfl, ho3, hm3⟩
      have H3 := Lib.hid (H1.out.keep hm3)
      have HO3 := Lib.hid ho3.rd
      have q1' := hm3.cell_eq q1 (fun e => e)
      clear hm3 ho3
      go_wp2_with fail
      refine (rf_read H3.out.ref x.sector).mono ?_
      rintro e w4 ⟨v4, rfl, ho4, hm4⟩
      have H4 := Lib.hid (H3.out.keep hm4)
      have HO4 := Lib.hid (HO3.out.keep hm4 (fun _ _ _ e => e))
      have HP4 := Lib.hid ho4.rd
      clear hm4 ho4 q1'
      have hlen : (readT s x.sector).2.length ≤ 140737488355328 := by
        have := H1.out.len x.sector
        unfold readT
        split <;> simp <;> omega
      generalize (readT s x.sector).1 = E at *
      generalize (readT s x.sector).2 = L at *
      have dE : (E == E) = true := by simp
      go_wp2_with fail
      refine (same_any HO4.out HP4.out hlen).mono ?_
      rintro e w5 ⟨rfl, hm5⟩
      rw [show decide (L = L) = true from decide_eq_true rfl]
      have H5 := Lib.hid (H4.out.keep hm5)
      clear hm5
      go_wp2_with fail
      go_returns
      rw [HS.out]
      exact ⟨rfl, H5.out.fin HSB.out⟩
  · have HS := Lib.hid (show stepD s x = wakeS s x.fates by rw [HST.out, if_neg (by omega), if_neg (by omega), if_neg (by omega), if_neg (by omega)])
    have q4 := HX1.out.c4
    go_wp2_with fail
    refine (lentF_any HF1.out (by omega)).mono ?_
    rintro e w2 ⟨g2, c2, rfl, ho2, hm2⟩
    have hg2 : w1.heap.size ≤ g2 ∧ g2 < w2.heap.size := by
      obtain ⟨g', c', he, h3, h4⟩ := ho2.form1 (by omega)
      cases he
      exact ⟨h3, h4⟩
    have HO2 := Lib.hid (ownS_only ho2)
    have H2 := Lib.hid (H1.out.guard hm2)
    have HX2 := Lib.hid (HX1.out.keep hm2 (fun e => e))
    have HF2 := Lib.hid (HF1.out.keep hm2 (fun _ _ _ e => e))
    have HG2 := Lib.hid (show (XS.mk (fun k => Y k ∨ (w1.heap.size ≤ k ∧ k < w2.heap.size)) Y.z).x g2 ∧ ¬ dkOwn b ms mo g2 from ⟨.inr hg2, fun e => by have := H1.out.live.at_.own_lt g2 e; omega⟩)
    have HGX2 := Lib.hid (show (XS.mk (fun k => Y k ∨ (w1.heap.size ≤ k ∧ k < w2.heap.size)) Y.z).x g1 from .inl HGX.out)
    generalize (XS.mk (fun k => Y k ∨ (w1.heap.size ≤ k ∧ k < w2.heap.size)) Y.z) = Z at *
    clear ho2 hm2 hg2 q4 H1 HX1 HF1
    have HR2 := Lib.hid (show Rd w2 (· = g2) 1 (.slice (some ⟨g2, 0, none⟩) x.fates.length c2) x.fates.length (ints x.fates) by
      have h := rd_pre (k := x.fates.length) HO2.out (by omega)
      rwa [ints_app, List.take_left' (by simp [ints])] at h)
    go_wp2_with fail
    refine (lv_wake H2.out.live HR2.out (fun k hk _ e => HG2.out.2 (hk ▸ e)) _ rfl (by omega)).mono ?_
    rintro e w3 ⟨rfl, hl3, hm3⟩
    have HL3 := Lib.hid hl3
    have HM3 := Lib.hid hm3
    have HRF3 := Lib.hid (H2.out.half hm3)
    have HO3 := Lib.hid (HO2.out.keep hm3 (fun k hk _ e => HG2.out.2 (hk ▸ e)))
    have HX3 := Lib.hid (HX2.out.keep hm3 HG1.out.1)
    have HF3 := Lib.hid (HF2.out.keep hm3 (fun k hk _ e => by have h1 := HD.out k hk; have h2 := H2.out.live.own; rcases e with rfl | rfl | rfl <;> omega))
    have q4 := HX3.out.c4
    clear hl3 hm3 HO2 HR2 HX2 HF2
    go_wp2_with fail
    refine (rf_wake HRF3.out HF3.out (fun k hk _ e => by have h1 := HD.out k hk; have h2 := e.1; omega) (by omega)).mono ?_
    rintro e w4 ⟨rfl, hr4, hm4⟩
    have H4 := Lib.hid (H2.out.turn HL3.out HM3.out hr4 hm4)
    have HO4 := Lib.hid (HO3.out.keep hm4 (fun k hk _ e => e.2 (hk ▸ HG2.out.1)))
    have HX4 := Lib.hid (HX3.out.keep hm4 (fun e => e.2 HGX2.out))
    have HF4 := Lib.hid (HF3.out.keep hm4 (fun k hk _ e => by have h1 := HD.out k hk; have h2 := e.1; omega))
    have q4' := HX4.out.c4
    clear hr4 hm4 HL3 HRF3 HO3 HX3 HF3 q4
    go_wp2_with fail
    refine (keptF_any HO4.out.rd HF4.out (by omega)).mono ?_
    rintro e w5 ⟨rfl, hm5⟩
    have H5 := Lib.hid (H4.out.keep hm5)
    clear hm5
    go_wp2_with fail
    go_returns
    rw [HS.out]
    exact ⟨rfl, H5.out.fin HSB.out⟩

end Go.Proofs.YthbicfbhghcmkaaGreat
