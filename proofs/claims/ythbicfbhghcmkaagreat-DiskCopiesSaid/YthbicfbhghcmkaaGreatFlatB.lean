/-
  Lists of bytes that lie apart: storemankit.flatBytes.
-/
import Derived.Test.YthbicfbhghcmkaaGreatFlatA
import Derived.Test.YthbicfbhghcmkaaGreatLent
import Derived.Outline
namespace Go.Proofs.YthbicfbhghcmkaaGreat
open Go Go.RowKit Go.SM

/-- what each list holds -/
def Own1 (w : World) (vs : List Value) (n : Nat → Nat) (c : Nat → List UInt8) : Prop := ∀ k (h : k < vs.length), OwnS w (fun b => vs[k].ownBlock = some b) 5 1 vs[k] (n k) (u8s (c k))
/-- no two lie in one block -/
def Apt (vs : List Value) : Prop := ∀ i j (hi : i < vs.length) (hj : j < vs.length), i ≠ j → ∀ b, vs[i].ownBlock = some b → vs[j].ownBlock ≠ some b
def doneTo (c : Nat → List UInt8) (n : Nat → Nat) (k : Nat) : Nat → List UInt8 := fun j => if j < k then marksB j (n j) else c j
/-- blocks of theirs -/
def OwnV (vs : List Value) : Nat → Prop := fun b => ∃ k, ∃ h : k < vs.length, vs[k].ownBlock = some b

section
variable {w w' : World} {vs : List Value} {n : Nat → Nat} {c : Nat → List UInt8} {S : Nat → Prop}
theorem Own1.keep (h : Own1 w vs n c) (hm : Mod S w w') (hS : ∀ b, OwnV vs b → ¬ S b) : Own1 w' vs n c := fun k hk => (h k hk).keep hm (fun b hb _ => hS b ⟨k, hk, hb⟩)
theorem Own1.step (h : Own1 w vs n c) (ha : Apt vs) {k : Nat} (hk : k < vs.length) (hm : Mod (fun b => vs[k].ownBlock = some b) w w') {d : List UInt8} (hd : OwnS w' (fun b => vs[k].ownBlock = some b) 5 1 vs[k] (n k) (u8s d)) :
    Own1 w' vs n (fun j => if j = k then d else c j) := fun j hj => by
  by_cases e : j = k
  · subst e
    simpa using hd
  · simp only [if_neg e]
    exact (h j hj).keep hm (fun b hb _ e2 => ha j k hj hk e b hb e2)
theorem doneTo_zero (c : Nat → List UInt8) (n : Nat → Nat) : doneTo c n 0 = c := by funext j; simp [doneTo]
theorem doneTo_succ (c : Nat → List UInt8) (n : Nat → Nat) (k : Nat) : (fun j => if j = k then marksB k (n k) else doneTo c n k j) = doneTo c n (k + 1) := by
  funext j
  unfold doneTo
  by_cases e : j = k
  · subst e; simp
  · simp only [if_neg e]
    by_cases h : j < k
    · rw [if_pos h, if_pos (by omega)]
    · rw [if_neg h, if_neg (by omega)]
theorem Own1.lt (h : Own1 w vs n c) : ∀ b, OwnV vs b → b < w.heap.size := fun b ⟨k, hk, hb⟩ => ((h k hk).row.lt b hb).2
end

/-- what they have grown to lies in a row of the call's own -/
structure Grow (w wr : World) (gg H0 : Nat) (vs : List Value) (n : Nat → Nat) (cont : Nat → List UInt8) (k : Nat) (gs : List Value) : Prop where
  len : gs.length = vs.length
  row : wr.heap[gg]? = some (.cells gs.toArray 37 (0, 0))
  done : ∀ j (h : j < vs.length), j < k → Pair wr H0 5 1 vs[j] (gs[j]'(by omega)) (n j) 64 (u8s (cont j))
  rest : ∀ j (h : j < vs.length), k ≤ j → OwnS wr (fun b => vs[j].ownBlock = some b) 5 1 vs[j] (n j) (u8s (marksB j (n j)))
  mod : Mod (OwnV vs) w wr
  sz : H0 ≤ wr.heap.size ∧ gg < H0 ∧ w.heap.size ≤ gg
  lt : ∀ b, OwnV vs b → b < w.heap.size

section
variable {w wr wq : World} {gg H0 k : Nat} {vs gs : List Value} {n : Nat → Nat} {cont : Nat → List UInt8}
theorem Grow.step (h : Grow w wr gg H0 vs n cont k gs) (ha : Apt vs) (hk : k < vs.length) {g : Value} (hm : Mod (fun b => vs[k].ownBlock = some b ∨ wr.heap.size ≤ b) wr wq) (hp : Pair wq wr.heap.size 5 1 vs[k] g (n k) 64 (u8s (cont k))) :
    Grow w (wq.setCell ⟨gg, k, none⟩ g) gg H0 vs n cont (k + 1) (gs.set k g) := by
  have hz := h.sz
  have hlt : ∀ b (j : Nat) (hj : j < vs.length), vs[j].ownBlock = some b → b < w.heap.size := fun b j hj hb => h.lt b ⟨j, hj, hb⟩
  have hng : ∀ b, (vs[k].ownBlock = some b ∨ wr.heap.size ≤ b) → b ≠ gg := fun b hb e => by
    rcases hb with hb | hb
    · have := hlt b k hk hb; omega
    · omega
  have hrow : wq.heap[gg]? = some (.cells gs.toArray 37 (0, 0)) := hm.get h.row (fun e => hng gg e rfl)
  have hms : Mod (· = gg) wq (wq.setCell ⟨gg, k, none⟩ g) := (Mod.refl (· = gg) wq).setCell (p := ⟨gg, k, none⟩) (.inl rfl) _
  have hno : ∀ j (hj : j < vs.length) b, (vs[j].ownBlock = some b ∨ H0 ≤ b) → b ≠ gg := fun j hj b hb e => by
    rcases hb with hb | hb
    · have := hlt b j hj hb; omega
    · omega
  refine ⟨by rw [List.length_set]; exact h.len, ?_, fun j hj hjk => ?_, fun j hj hjk => ?_, ?_, ⟨Nat.le_trans hz.1 (Nat.le_trans hm.size hms.size), hz.2⟩, h.lt⟩
  · have h1 := heap_setCell_same wq gg k _ _ g hrow
    rw [h1, List.setIfInBounds_toArray]
  · by_cases e : j = k
    · subst e
      simp only [List.getElem_set_self]
      exact (hp.low hz.1).keep hms (fun b hb _ e => hno j hj b hb e)
    · simp only [List.getElem_set_ne (Ne.symm e)]
      refine ((h.done j hj (by omega)).keep hm (fun b hb hlb e2 => ?_)).keep hms (fun b hb _ e => hno j hj b hb e)
      rcases e2 with e2 | e2
      · rcases hb with hb | hb
        · exact ha j k hj hk e b hb e2
        · have := hlt b k hk e2; omega
      · omega
  · refine ((h.rest j hj (by omega)).keep hm (fun b hb hlb e2 => ?_)).keep hms (fun b hb _ e => hno j hj b (.inl hb) e)
    rcases e2 with e2 | e2
    · exact ha j k hj hk (by omega) b hb e2
    · omega
  · refine (h.mod.trans hm (fun b e hb => ?_)).trans hms (fun b e hb => by omega)
    rcases e with e | e
    · exact ⟨k, hk, e⟩
    · have := h.mod.size; omega
theorem Grow.keep (h : Grow w wr gg H0 vs n cont k gs) (hm : Mod none_ wr wq) : Grow w wq gg H0 vs n cont k gs :=
  ⟨h.len, hm.get h.row (fun e => e), fun j hj hjk => (h.done j hj hjk).keep hm (fun _ _ _ e => e), fun j hj hjk => (h.rest j hj hjk).keep hm (fun _ _ _ e => e), h.mod.trans hm (fun _ e _ => e.elim), ⟨Nat.le_trans h.sz.1 hm.size, h.sz.2⟩, h.lt⟩
end

theorem take_set_succ {l : List UInt8} {i : Nat} (h : i < l.length) (x : UInt8) : (l.set i x).take (i + 1) = l.take i ++ [x] := by
  rw [List.take_succ_eq_append_getElem (by simpa using h), List.take_set_of_le (Nat.le_refl _)]
  simp

theorem own_rep {w : World} {g n : Nat} (hb : w.heap[g]? = some (.cells (List.replicate n (Value.int .u8 0)).toArray 5 (0, 0))) (hn : n ≤ maxLen) : OwnS w (· = g) 5 1 (.slice (some ⟨g, 0, none⟩) n n) n (u8s (List.replicate n 0)) := by
  rw [show u8s (List.replicate n 0) = List.replicate n (.int .u8 0) by rw [u8s, List.map_replicate]; rfl]
  exact OwnS.made (sz := 1) (D := (· = g)) hb rfl n hn (by rw [List.length_replicate, Nat.mul_one])

theorem marks_take (k : Int) (n m : Nat) : (u8s (marksB k (n + m))).take (n * 1) = u8s (marksB k n) := by
  rw [Nat.mul_one, ← u8s_take]
  congr 1
  unfold marksB
  rw [← List.map_take, List.take_range, Nat.min_eq_left (by omega)]

theorem u8s_set (l : List UInt8) (i : Nat) (x : UInt8) : u8s (l.set i x) = (u8s l).set i (.int .u8 (x.toNat : Int)) := by
  simp [u8s, List.map_set, u8]

set_option maxHeartbeats 8000000 in
set_option maxRecDepth 100000 in
theorem flatB_any {w : World} {Dl : Nat → Prop} {lsv : Value} {vs : List Value} {n : Nat → Nat} {c : Nat → List UInt8} (hl : Rd w Dl 1 lsv vs.length vs) (hD : ∀ b, Dl b → ¬ OwnV vs b) (ho : Own1 w vs n c) (ha : Apt vs) (hN : vs.length ≤ 400) (hn : ∀ k, k < vs.length → n k ≤ 70368744177664) :
    Calls Tryz.prog 49 #[lsv] w fun e w' => e = .returned (.bool true) ∧ Mod (OwnV vs) w w' := by
  obtain ⟨A, cl, rfl⟩ := hl.slice
  have HL := Lib.hid hl
  have HD := Lib.hid hD
  have HO := Lib.hid ho
  have HA := Lib.hid ha
  have Hn := Lib.hid hn
  clear hl hD ho ha hn
  go_enter Tryz.func49, Tryz.ntmps49
  go_wp2_with fail
  go_loopw [3] (fun s3 wr => ∃ k : Nat, s3 = .int .i64 k ∧ k ≤ vs.length ∧ Own1 wr vs n (doneTo c n k) ∧ Mod (OwnV vs) w wr) (fun s3 _ => vs.length - (intOf s3).toNat)
  case atStart => exact ⟨0, rfl, Nat.zero_le _, by rw [doneTo_zero]; exact HO.out, Mod.refl _ _⟩
  case round =>
    obtain ⟨k, rfl, hk, ho, hm⟩ := hrel
    have HO1 := Lib.hid ho
    have HM1 := Lib.hid hm
    clear ho hm
    by_cases hlt : k < vs.length
    · obtain ⟨gl, ol, cl', he, hcl, hDl, hbl, hcell⟩ := (HL.out.keep HM1.out (fun b hb _ e => HD.out b hb e)).form (by omega)
      simp only [Value.slice.injEq] at he
      obtain ⟨rfl, _, rfl⟩ := he
      have q0 := hcell k vs[k] (List.getElem?_eq_getElem hlt)
      obtain ⟨Ak, ck, hvk⟩ := (HO1.out k hlt).rd.slice
      have hnk := Hn.out k hlt
      have d1 : decide ((k : Int) < (vs.length : Int)) = true := by simpa using hlt
      have e1 : (k : Int) < (vs.length : Int) := by omega
      have hk4 : k < 400 := by omega
      rw [hvk] at q0
      have HDl := Lib.hid (And.intro hDl hbl)
      have HV := Lib.hid hvk
      clear hcell hvk hDl hbl
      obtain ⟨wo, rfl⟩ : ∃ wo : World, wo = wr := ⟨_, rfl⟩
      have Q0 := Lib.hid q0
      go_wp2_with fail
      go_loopw [4] (fun s4 wq => ∃ (i : Nat) (zs : List UInt8), s4 = .int .i64 i ∧ i ≤ n k ∧ OwnS wq (fun b => vs[k].ownBlock = some b) 5 1 vs[k] (n k) (u8s zs) ∧ zs.take i = marksB k i ∧ Mod (fun b => vs[k].ownBlock = some b) wo wq) (fun s4 _ => n k - (intOf s4).toNat)
      case atStart => exact ⟨0, _, rfl, Nat.zero_le _, HO1.out k hlt, by simp [marksB], Mod.refl _ _⟩
      case round =>
        obtain ⟨i, zs, rfl, hi, hoz, htz, hmz⟩ := hrel
        have HOZ := Lib.hid hoz
        have HTZ := Lib.hid htz
        have HMZ := Lib.hid hmz
        have q1 := hmz.cell_eq Q0.out (fun e => HD.out gl HDl.out.1 ⟨k, hlt, e⟩)
        have hzl : zs.length = n k := by have := hoz.row.1; simpa using this
        have HZL := Lib.hid hzl
        clear hoz htz hmz q0 hzl
        by_cases hlti : i < n k
        · have hAk : ∃ g, Ak = some ⟨g, 0, none⟩ := by
            obtain ⟨g, c1, he, _⟩ := HOZ.out.form1 (by omega)
            rw [HV.out] at he
            simp only [Value.slice.injEq] at he
            exact ⟨g, he.1⟩
          obtain ⟨g, rfl⟩ := hAk
          have d2 : decide ((i : Int) < (n k : Int)) = true := by simpa using hlti
          have e2 : (i : Int) < (n k : Int) := by omega
          have hik : i < 70368744177664 := by omega
          have hown : OwnS wr (fun b => vs[k].ownBlock = some b) 5 1 (.slice (some ⟨g, 0, none⟩) (n k) ck) (n k) (u8s zs) := by
            rw [← HV.out]; exact HOZ.out
          obtain ⟨cur, hcur, _⟩ := hown.blk
          have f := frozen_of_row wr g i _ _ hcur
          have hizs : i < (u8s zs).length := by rw [length_u8s, HZL.out]; exact hlti
          have q := hown.cell (List.getElem?_eq_getElem hizs)
          have HNG := Lib.hid (show g ≠ gl from fun e => HD.out gl HDl.out.1 ⟨k, hlt, by rw [HV.out, ← e]; rfl⟩)
          have HSet := Lib.hid (hown.set (i := i) (.int .u8 ((mB k i).toNat : Int)))
          have hSC : Mod (fun b => vs[k].ownBlock = some b) wr (wr.setCell ⟨g, i, none⟩ (.int .u8 ((mB k i).toNat : Int))).drew := ((Mod.refl _ wr).setCell (p := ⟨g, i, none⟩) (.inl (by rw [HV.out]; rfl)) _).drew
          have HSC := Lib.hid hSC
          have hS1 := hSC.cell_eq q1 (fun e => HD.out gl HDl.out.1 ⟨k, hlt, e⟩)
          generalize (u8s zs)[i] = y at *
          clear hown hcur hizs hSC
          go_wp2_with fail
          go_region_held3 (fun W : World => W.cell? ⟨gl, ol + k, none⟩ = some (.slice (some ⟨g, 0, none⟩) (n k) ck))
            (first | exact q1 | exact hS1)
            (first | (go_at_call 68; fail) | (go_at_call 41; refine (markB_any k i _ (by omega) (by omega)).mono ?_; rintro e w' ⟨rfl, rfl⟩))
          go_wp2_with fail
          refine ⟨⟨i + 1, zs.set i (mB k i), by go_num, by omega, ?_, ?_, HMZ.out.trans' HSC.out⟩, by simp [intOf] <;> omega⟩
          · have h := HSet.out.keep ((Mod.refl none_ _).drew) (fun _ _ _ e => e)
            rw [← HV.out] at h
            rw [u8s_set]
            exact h
          · rw [take_set_succ (by rw [HZL.out]; exact hlti), HTZ.out, marksB_succ]
        · have d2 : decide ((i : Int) < (n k : Int)) = false := by simpa using hlti
          have e2 : ¬ (i : Int) < (n k : Int) := by omega
          have hend : zs = marksB k (n k) := by
            have h1 := HTZ.out
            rw [List.take_of_length_le (by rw [HZL.out]; omega)] at h1
            rw [h1]
            congr 1
            omega
          have HE := Lib.hid hend
          clear hend
          go_wp2_with fail
          refine ⟨⟨k + 1, by go_num, by omega, ?_, HM1.out.trans' (HMZ.out.mono (fun b _ e => ⟨k, hlt, e⟩))⟩, by simp [intOf] <;> omega⟩
          rw [← doneTo_succ]
          exact HO1.out.step HA.out hlt HMZ.out (by rw [← HE.out]; exact HOZ.out)
    · have d1 : decide ((k : Int) < (vs.length : Int)) = false := by simpa using hlt
      have e1 : ¬ (k : Int) < (vs.length : Int) := by omega
      have HO2 := Lib.hid (show Own1 wr vs n (fun j => marksB j (n j)) from fun j hj => by
        have h := HO1.out j hj
        unfold doneTo at h
        rwa [if_pos (by omega)] at h)
      have HLT := Lib.hid HO.out.lt
      clear HO1 HO
      obtain ⟨w1, rfl⟩ : ∃ w1 : World, w1 = wr := ⟨_, rfl⟩
      go_wp2_with (with_reducible refine at_ (o := ⟨some 42, .makeSlice _ _ _, _, _, _, _⟩) ?_)
      refine un (wpList_make rfl 44 _ _ rfl 37 (.slice none 0 0) 24 Tryz.underlying44 (by kernel_rfl) rfl .i64 .i64 vs.length vs.length rfl rfl (Nat.le_refl _) (by omega) (by omega) ?_)
      intro w2 gg hb2 hm2 hs2
      have hg2 := blk_lt hb2
      have HG2 := Lib.hid (show Grow w w2 gg w2.heap.size vs n (fun j => marksB j (n j + 64)) 0 (List.replicate vs.length (.slice none 0 0)) from
        ⟨by simp, hb2, fun j _ hj => absurd hj (by omega), fun j hj _ => (HO2.out j hj).keep hm2 (fun _ _ _ e => e), HM1.out.trans hm2 (fun _ e _ => e.elim), ⟨Nat.le_refl _, hg2, Nat.le_trans HM1.out.size hs2⟩, HLT.out⟩)
      clear hb2 hm2 HO2 d1 e1
      obtain ⟨H2, hH2⟩ : ∃ H2, w2.heap.size = H2 := ⟨_, rfl⟩
      have hg2' := HG2.out
      rw [hH2] at hg2'
      have HG2 := Lib.hid hg2'
      clear hg2' hH2 hg2
      go_frame
      go_wp2_with fail
      go_loopw [6] (fun s6 wr => ∃ (k : Nat) (gs : List Value), s6 = .int .i64 k ∧ k ≤ vs.length ∧ Grow w wr gg H2 vs n (fun j => marksB j (n j + 64)) k gs) (fun s6 _ => vs.length - (intOf s6).toNat)
      case atStart => exact ⟨0, _, rfl, Nat.zero_le _, HG2.out⟩
      case round =>
        obtain ⟨k, gs, rfl, hk, hg⟩ := hrel
        have HG := Lib.hid hg
        clear hg HG2
        by_cases hlt : k < vs.length
        · obtain ⟨gl, ol, cl', he, hcl, hDl, hbl, hcell⟩ := (HL.out.keep HG.out.mod (fun b hb _ e => HD.out b hb e)).form (by omega)
          simp only [Value.slice.injEq] at he
          obtain ⟨rfl, _, rfl⟩ := he
          have q0 := hcell k vs[k] (List.getElem?_eq_getElem hlt)
          have hok := HG.out.rest k hlt (Nat.le_refl _)
          obtain ⟨Ak, ck, hvk⟩ := hok.rd.slice
          have hnk := Hn.out k hlt
          have d1 : decide ((k : Int) < (vs.length : Int)) = true := by simpa using hlt
          have e1 : (k : Int) < (vs.length : Int) := by omega
          have hk4 : k < 400 := by omega
          have hgl : gl < w.heap.size := by
            have := HL.out.form (by omega : 0 < vs.length)
            obtain ⟨b, o, c', he, _, _, hb, _⟩ := this
            simp only [Value.slice.injEq, Option.some.injEq, Addr.mk.injEq] at he
            omega
          rw [hvk] at q0
          have HDl := Lib.hid (And.intro hDl (And.intro hbl hgl))
          have HV := Lib.hid hvk
          have HOK := Lib.hid hok
          clear hcell hvk hDl hbl hok hgl
          obtain ⟨wo, rfl⟩ : ∃ wo : World, wo = wr := ⟨_, rfl⟩
          have Q0 := Lib.hid q0
          obtain ⟨HH, hHH⟩ : ∃ HH, wo.heap.size = HH := ⟨_, rfl⟩
          have HHH := Lib.hid hHH
          clear hHH
          go_wp2_with fail
          go_loopw [8, 7] (fun s8 s7 wq => ∃ (i : Nat) (g : Value), s8 = .int .i64 i ∧ s7 = g ∧ i ≤ 64 ∧ Pair wq HH 5 1 vs[k] g (n k) i (u8s (marksB k (n k + i))) ∧ Mod (fun b => vs[k].ownBlock = some b ∨ HH ≤ b) wo wq) (fun s8 _ _ => 64 - (intOf s8).toNat)
          case atStart => exact ⟨0, _, rfl, rfl, Nat.zero_le _, by rw [← HV.out]; exact Pair.start HOK.out HH, Mod.refl _ _⟩
          case round =>
            obtain ⟨i, g, rfl, rfl, hi, hp, hmq⟩ := hrel
            have HP := Lib.hid hp
            have HMQ := Lib.hid hmq
            have hsz := hmq.size
            rw [HHH.out] at hsz
            have q1 := hmq.cell_eq Q0.out (fun e => e.elim (fun e => HD.out gl HDl.out.1 ⟨k, hlt, e⟩) (fun e => by have e' : HH ≤ gl := e; have := HHH.out; have := HDl.out.2.1; omega))
            have hvlt : ∀ b, vs[k].ownBlock = some b → b < HH := fun b hb => by have := (HOK.out.row.lt b hb).2; have := HHH.out; omega
            have HVL := Lib.hid hvlt
            have HSZ := Lib.hid hsz
            clear hp hmq q0 hvlt hsz
            by_cases hi6 : i < 64
            · have d2 : decide ((i : Int) < 64) = true := by simp; omega
              have e2 : (i : Int) < 64 := by omega
              have hw1 : IntKind.i64.wrap ((n k : Int) + (i : Int)) = ((n k + i : Nat) : Int) := by rw [IntWalk.i64_in _ (by omega)]; omega
              go_wp2_with fail
              refine (markB_any k ((n k + i : Nat) : Int) _ (by omega) (by omega)).mono ?_
              rintro e w' ⟨rfl, rfl⟩
              obtain ⟨cb, hcb⟩ : ∃ cb, mB k ((n k + i : Nat) : Int) = cb := ⟨_, rfl⟩
              have HCB := Lib.hid hcb
              rw [hcb]
              clear hcb
              go_wp2_with (with_reducible refine at_ (o := ⟨some 68, _, _, _, _, _⟩) ?_)
              have hma := (Mod.refl none_ wr).alloc (.cells #[.int .u8 (cb.toNat : Int)] 5)
              have HRA := Lib.hid (show Rd (wr.alloc (.cells #[.int .u8 (cb.toNat : Int)] 5)) (Fr wr) 1 (.slice (some ⟨wr.heap.size, 0, none⟩) 1 1) 1 (u8s [cb]) from
                ⟨_, _, rfl, Nat.le_refl _, rfl, fun _ => ⟨_, _, rfl, Nat.le_refl _, by simp, block_cells (xs := u8s [cb]) (heap_alloc_new wr _)⟩⟩)
              have HPA := Lib.hid (HP.out.keep hma (fun _ _ _ e => e))
              have HMA := Lib.hid (HMQ.out.trans hma (fun _ e _ => e.elim))
              have hsa := hma.size
              clear hma
              refine un (wpList_append_pair rfl _ _ 37 rfl eltB rfl HPA.out HVL.out (by have := HSZ.out; omega) rfl HRA.out (by omega) (u8s_one _) (by omega) (by omega) ?_)
              intro g7 w7 hp7 hm7
              have HP7 := Lib.hid (show Pair w7 HH 5 1 vs[k] g7 (n k) (i + 1) (u8s (marksB k (n k + (i + 1)))) by
                rw [← Nat.add_assoc, marksB_succ, u8s_append, HCB.out]
                exact hp7)
              have HM7 := Lib.hid (HMA.out.trans' hm7)
              clear hp7 hm7 hsa
              go_frame
              go_wp2_with fail
              exact ⟨⟨i + 1, _, by go_num, rfl, by omega, HP7.out, HM7.out⟩, by simp [intOf] <;> omega⟩
            · obtain rfl : i = 64 := by omega
              obtain ⟨Ag, cg, rfl⟩ := HP.out.rd.slice
              have HG3 := Lib.hid (HG.out.step HA.out hlt (g := .slice Ag (n k + 64) cg) (by rw [HHH.out]; exact HMQ.out) (by rw [HHH.out]; exact HP.out))
              have hrw : wr.heap[gg]? = some (.cells gs.toArray 37 (0, 0)) := HMQ.out.get HG.out.row (fun e => by
                have h1 := HG.out.sz
                rcases e with e | e
                · have := HLT.out gg ⟨k, hlt, e⟩; omega
                · have := HHH.out; omega)
              have hkg : k < gs.length := by rw [HG.out.len]; exact hlt
              have p1 : wr.cell? ⟨gg, k, none⟩ = some gs[k] := by rw [cell_of_row wr gg k _ _ _ hrw]; simp [hkg]
              have f1 : wr.frozen? ⟨gg, k, none⟩ = false := frozen_of_row wr gg k _ _ hrw
              generalize gs[k] = y at *
              clear hrw hkg
              go_wp2_with fail
              exact ⟨⟨k + 1, _, by go_num, by omega, HG3.out⟩, by simp [intOf] <;> omega⟩
        · have d1 : decide ((k : Int) < (vs.length : Int)) = false := by simpa using hlt
          have e1 : ¬ (k : Int) < (vs.length : Int) := by omega
          obtain rfl : k = vs.length := by omega
          obtain ⟨w3, rfl⟩ : ∃ w3 : World, w3 = wr := ⟨_, rfl⟩
          go_wp2_with fail
          clear d1 e1 hk hlt
          go_loopw [9] (fun s9 wr => ∃ k m : Nat, s9 = .int .i64 k ∧ k ≤ vs.length ∧ wr = w3.drewN m) (fun s9 _ => vs.length - (intOf s9).toNat)
          case atStart => exact ⟨0, 0, rfl, Nat.zero_le _, rfl⟩
          case round =>
            obtain ⟨k, m, rfl, hk, rfl⟩ := hrel
            by_cases hlt : k < vs.length
            · obtain ⟨gl, ol, cl', he, hcl, hDl, hbl, hcell⟩ := (HL.out.keep HG.out.mod (fun b hb _ e => HD.out b hb e)).form (by omega)
              simp only [Value.slice.injEq] at he
              obtain ⟨rfl, _, rfl⟩ := he
              have q0 := hcell k vs[k] (List.getElem?_eq_getElem hlt)
              have hkg : k < gs.length := by rw [HG.out.len]; exact hlt
              have hp := HG.out.done k hlt hlt
              obtain ⟨Ak, ck, hvk⟩ := hp.old.rd.slice
              obtain ⟨Ag, cg, hgk⟩ := hp.own.rd.slice
              have p1 : w3.cell? ⟨gg, k, none⟩ = some gs[k] := by rw [cell_of_row w3 gg k _ _ _ HG.out.row]; simp [hkg]
              have hlg : gs.length = vs.length := HG.out.len
              have hnk := Hn.out k hlt
              have d1 : decide ((k : Int) < (vs.length : Int)) = true := by simpa using hlt
              have e1 : (k : Int) < (vs.length : Int) := by omega
              have hk4 : k < 400 := by omega
              rw [hvk] at q0
              rw [hgk] at p1
              have hp2 := hp
              rw [hvk, hgk] at hp2
              have HP := Lib.hid hp2
              clear hcell hDl hbl hp hp2 hgk hvk hkg hlg
              go_wp2_with fail
              go_loopw [10] (fun s10 wr => ∃ i m2 : Nat, s10 = .int .i64 i ∧ i ≤ n k + 64 ∧ wr = w3.drewN m2) (fun s10 _ => n k + 64 - (intOf s10).toNat)
              case atStart => exact ⟨0, m, rfl, Nat.zero_le _, rfl⟩
              case round =>
                obtain ⟨i, m2, rfl, hi, rfl⟩ := hrel
                by_cases hlti : i < n k + 64
                · have hia : i < (marksB k (n k + 64)).length := by rw [marksB_len]; exact hlti
                  obtain ⟨b, o, c1, he, _, _, hcx⟩ := rd_byte (l := marksB k (n k + 64)) (by rw [marksB_len]; exact HP.out.own.rd) hia
                  rw [marksB_len] at he
                  simp only [Value.slice.injEq] at he
                  obtain ⟨rfl, _, rfl⟩ := he
                  rw [marksB_get _ _ _ hlti] at hcx
                  have d2 : decide ((i : Int) < ((n k + 64 : Nat) : Int)) = true := by simp; omega
                  have e2 : (i : Int) < ((n k + 64 : Nat) : Int) := by omega
                  have hik : i < 70368744177728 := by omega
                  have HCALL := Lib.hid (fun W : World => markB_any k i W (by omega) (by omega))
                  by_cases hlto : i < n k
                  · have hio : i < (marksB k (n k)).length := by rw [marksB_len]; exact hlto
                    have hold : Rd w3 (fun b => (Value.slice Ak (n k) ck).ownBlock = some b) 1 (.slice Ak (n k) ck) (marksB k (n k)).length (u8s (marksB k (n k))) := by
                      have h := HP.out.old.rd
                      rw [marksB_len]
                      rwa [marks_take] at h
                    obtain ⟨b2, o2, c2, he, _, _, hcy⟩ := rd_byte (l := marksB k (n k)) hold hio
                    rw [marksB_len] at he
                    simp only [Value.slice.injEq] at he
                    obtain ⟨rfl, _, rfl⟩ := he
                    rw [marksB_get _ _ _ hlto] at hcy
                    have d3 : decide ((i : Int) < (n k : Int)) = true := by simpa using hlto
                    have e3 : (i : Int) < (n k : Int) := by omega
                    generalize mB k i = x at *
                    have d4 : ((x.toNat : Int) == (x.toNat : Int)) = true := by simp
                    clear hold hio hia
                    go_wp2_with fail
                    go_quiet ((go_at_call 41; exact (HCALL.out _).mono (fun e w' h => ⟨h.1, _, h.2.symm⟩)))
                    go_wp2_with fail
                    exact ⟨⟨i + 1, _, by go_num, by omega, rfl⟩, by simp [intOf] <;> omega⟩
                  · have d3 : decide ((i : Int) < (n k : Int)) = false := by simpa using hlto
                    have e3 : ¬ (i : Int) < (n k : Int) := by omega
                    generalize mB k i = x at *
                    have d4 : ((x.toNat : Int) == (x.toNat : Int)) = true := by simp
                    clear hia
                    go_wp2_with fail
                    go_quiet ((go_at_call 41; exact (HCALL.out _).mono (fun e w' h => ⟨h.1, _, h.2.symm⟩)))
                    go_wp2_with fail
                    exact ⟨⟨i + 1, _, by go_num, by omega, rfl⟩, by simp [intOf] <;> omega⟩
                · have d2 : decide ((i : Int) < ((n k + 64 : Nat) : Int)) = false := by simp; omega
                  have e2 : ¬ (i : Int) < ((n k + 64 : Nat) : Int) := by omega
                  go_wp2_with fail
                  exact ⟨⟨k + 1, _, by go_num, by omega, rfl⟩, by simp [intOf] <;> omega⟩
            · have d1 : decide ((k : Int) < (vs.length : Int)) = false := by simpa using hlt
              have e1 : ¬ (k : Int) < (vs.length : Int) := by omega
              have hz3 := HG.out.sz
              have HG4 := Lib.hid (show Grow w (w3.drewN m) gg w3.heap.size vs n (fun j => marksB j (n j) ++ marksB ((j + vs.length : Nat) : Int) 64) 0 gs from
                ⟨HG.out.len, HG.out.row, fun j _ hj => absurd hj (by omega), fun j hj _ => by
                  have h := (HG.out.done j hj hj).old
                  rw [marks_take] at h
                  exact h.keep ((Mod.refl none_ w3).drewN m) (fun _ _ _ e => e), HG.out.mod.drewN m, ⟨Nat.le_refl _, by omega, hz3.2.2⟩, HG.out.lt⟩)
              obtain ⟨w4, hw4⟩ : ∃ w4, w3.drewN m = w4 := ⟨_, rfl⟩
              have hg4' := HG4.out
              rw [hw4] at hg4'
              obtain ⟨H4, hH4⟩ : ∃ H4, w3.heap.size = H4 := ⟨_, rfl⟩
              rw [hH4] at hg4'
              have HG4 := Lib.hid hg4'
              rw [hw4]
              clear hg4' hH4 hw4 hz3 HG
              go_wp2_with fail
              clear d1 e1 hk hlt
              go_loopw [11] (fun s11 wr => ∃ (k : Nat) (gs : List Value), s11 = .int .i64 k ∧ k ≤ vs.length ∧ Grow w wr gg H4 vs n (fun j => marksB j (n j) ++ marksB ((j + vs.length : Nat) : Int) 64) k gs) (fun s11 _ => vs.length - (intOf s11).toNat)
              case atStart => exact ⟨0, _, rfl, Nat.zero_le _, HG4.out⟩
              case round =>
                clear HG4
                obtain ⟨k, gs, rfl, hk, hg⟩ := hrel
                have HG := Lib.hid hg
                clear hg
                by_cases hlt : k < vs.length
                · have hok := HG.out.rest k hlt (Nat.le_refl _)
                  obtain ⟨Ak, ck, hvk⟩ := hok.rd.slice
                  have hnk := Hn.out k hlt
                  have d1 : decide ((k : Int) < (vs.length : Int)) = true := by simpa using hlt
                  have e1 : (k : Int) < (vs.length : Int) := by omega
                  have hk4 : k < 400 := by omega
                  have HV := Lib.hid hvk
                  have HOK := Lib.hid hok
                  clear hvk hok
                  obtain ⟨wo, rfl⟩ : ∃ wo : World, wo = wr := ⟨_, rfl⟩
                  obtain ⟨HH, hHH⟩ : ∃ HH, wo.heap.size = HH := ⟨_, rfl⟩
                  have HHH := Lib.hid hHH
                  clear hHH
                  go_wp2_with (with_reducible refine at_ (o := ⟨some 129, .makeSlice _ _ _, _, _, _, _⟩) ?_)
                  refine un (wpList_make rfl 37 _ _ rfl 5 (.int .u8 0) 1 Tryz.underlying37 (by kernel_rfl) rfl .i64 .i64 64 64 rfl rfl (Nat.le_refl _) (by omega) (by omega) ?_)
                  intro w5 gm hb5 hm5 hs5
                  have HO5 := Lib.hid (show OwnS w5 (· = gm) 5 1 (.slice (some ⟨gm, 0, none⟩) 64 64) 64 (u8s (List.replicate 64 0)) from own_rep hb5 (by simp only [maxLen]; omega))
                  have HM5 := Lib.hid hm5
                  have hgm : HH ≤ gm := by have := HHH.out; omega
                  have hw1 : IntKind.i64.wrap ((k : Int) + (vs.length : Int)) = ((k + vs.length : Nat) : Int) := by rw [IntWalk.i64_in _ (by omega)]; omega
                  clear hb5 hm5 hs5
                  go_frame
                  go_wp2_with fail
                  go_loopw [13] (fun s13 wq => ∃ (i : Nat) (zs : List UInt8), s13 = .int .i64 i ∧ i ≤ 64 ∧ OwnS wq (· = gm) 5 1 (.slice (some ⟨gm, 0, none⟩) 64 64) 64 (u8s zs) ∧ zs.take i = marksB ((k + vs.length : Nat) : Int) i ∧ Mod (· = gm) w5 wq) (fun s13 _ => 64 - (intOf s13).toNat)
                  case atStart => exact ⟨0, _, rfl, Nat.zero_le _, HO5.out, by simp [marksB], Mod.refl _ _⟩
                  case round =>
                    obtain ⟨i, zs, rfl, hi, hoz, htz, hmz⟩ := hrel
                    have HOZ := Lib.hid hoz
                    have HTZ := Lib.hid htz
                    have HMZ := Lib.hid hmz
                    have hzl : zs.length = 64 := by have := hoz.row.1; simpa using this
                    have HZL := Lib.hid hzl
                    clear hoz htz hmz hzl
                    by_cases hi6 : i < 64
                    · have d2 : decide ((i : Int) < 64) = true := by simp; omega
                      have e2 : (i : Int) < 64 := by omega
                      obtain ⟨cur, hcur, _⟩ := HOZ.out.blk
                      have f := frozen_of_row wr gm i _ _ hcur
                      have hizs : i < (u8s zs).length := by rw [length_u8s, HZL.out]; exact hi6
                      have q := HOZ.out.cell (List.getElem?_eq_getElem hizs)
                      have HSet := Lib.hid (HOZ.out.set (i := i) (.int .u8 ((mB ((k + vs.length : Nat) : Int) i).toNat : Int)))
                      have HSC := Lib.hid (show Mod (· = gm) wr (wr.setCell ⟨gm, i, none⟩ (.int .u8 ((mB ((k + vs.length : Nat) : Int) i).toNat : Int))) from (Mod.refl (· = gm) wr).setCell (p := ⟨gm, i, none⟩) (.inl rfl) _)
                      generalize (u8s zs)[i] = y at *
                      clear hcur hizs
                      go_wp2_with fail
                      refine (markB_any ((k + vs.length : Nat) : Int) i _ (by omega) (by omega)).mono ?_
                      rintro e w' ⟨rfl, rfl⟩
                      go_wp2_with fail
                      refine ⟨⟨i + 1, zs.set i (mB ((k + vs.length : Nat) : Int) i), by go_num, by omega, ?_, ?_, HMZ.out.trans' HSC.out⟩, by simp [intOf] <;> omega⟩
                      · rw [u8s_set]
                        exact HSet.out
                      · rw [take_set_succ (by rw [HZL.out]; exact hi6), HTZ.out, marksB_succ]
                    · have d2 : decide ((i : Int) < 64) = false := by simp; omega
                      have e2 : ¬ (i : Int) < 64 := by omega
                      obtain rfl : i = 64 := by omega
                      have hend : zs = marksB ((k + vs.length : Nat) : Int) 64 := by
                        have h1 := HTZ.out
                        rwa [List.take_of_length_le (by rw [HZL.out]; omega)] at h1
                      have HOM := Lib.hid (show Rd wr (· = gm) 1 (.slice (some ⟨gm, 0, none⟩) 64 64) 64 (u8s (marksB ((k + vs.length : Nat) : Int) 64)) from by rw [← hend]; exact HOZ.out.rd)
                      have HM6 := Lib.hid (show Mod none_ wo wr from HM5.out.trans HMZ.out (fun b e hb => by have := HHH.out; omega))
                      have HGQ := Lib.hid (HG.out.keep HM6.out)
                      have HVK := Lib.hid (HOK.out.keep HM6.out (fun _ _ _ e => e))
                      have HVL := Lib.hid (show ∀ b, vs[k].ownBlock = some b → b < HH from fun b hb => by have := (HOK.out.row.lt b hb).2; have := HHH.out; omega)
                      have hsz6 := HM6.out.size
                      rw [HHH.out] at hsz6
                      obtain ⟨gl, ol, cl', he, hcl, hDl, hbl, hcell⟩ := (HL.out.keep HGQ.out.mod (fun b hb _ e => HD.out b hb e)).form (by omega)
                      simp only [Value.slice.injEq] at he
                      obtain ⟨rfl, _, rfl⟩ := he
                      have q0 := hcell k vs[k] (List.getElem?_eq_getElem hlt)
                      rw [HV.out] at q0
                      clear hcell hDl hbl hend
                      go_wp2_with (with_reducible refine at_ (o := ⟨some 150, _, _, _, _, _⟩) ?_)
                      have HPS := Lib.hid (show Pair wr HH 5 1 vs[k] (.slice Ak (n k) ck) (n k) 0 (u8s (marksB k (n k))) from by rw [← HV.out]; exact Pair.start HVK.out HH)
                      refine un (wpList_append_pair rfl _ _ 37 rfl eltB rfl HPS.out HVL.out hsz6 rfl HOM.out (by omega) (u8s_one _) (by omega) (by omega) ?_)
                      intro g7 w7 hp7 hm7
                      obtain ⟨Ag, cg, rfl⟩ := hp7.rd.slice
                      have HG7 := Lib.hid (HG.out.step HA.out hlt (wq := w7) (g := .slice Ag (n k + 64) cg) (by rw [HHH.out]; exact (HM6.out.mono (fun _ _ e => e.elim)).trans' hm7) (by rw [HHH.out, u8s_append]; exact hp7))
                      have hrw : w7.heap[gg]? = some (.cells gs.toArray 37 (0, 0)) := hm7.get HGQ.out.row (fun e => by
                        have h1 := HG.out.sz
                        rcases e with e | e
                        · have := HLT.out gg ⟨k, hlt, e⟩; omega
                        · have := HHH.out; omega)
                      have hkg : k < gs.length := by rw [HG.out.len]; exact hlt
                      have p1 : w7.cell? ⟨gg, k, none⟩ = some gs[k] := by rw [cell_of_row w7 gg k _ _ _ hrw]; simp [hkg]
                      have f1 : w7.frozen? ⟨gg, k, none⟩ = false := frozen_of_row w7 gg k _ _ hrw
                      generalize gs[k] = y at *
                      clear hrw hkg hp7 hm7 q0
                      go_frame
                      go_wp2_with fail
                      exact ⟨⟨k + 1, _, by go_num, by omega, HG7.out⟩, by simp [intOf] <;> omega⟩
                · have d1 : decide ((k : Int) < (vs.length : Int)) = false := by simpa using hlt
                  have e1 : ¬ (k : Int) < (vs.length : Int) := by omega
                  obtain rfl : k = vs.length := by omega
                  obtain ⟨w8, rfl⟩ : ∃ w8 : World, w8 = wr := ⟨_, rfl⟩
                  go_wp2_with fail
                  clear d1 e1 hk hlt
                  go_loopw [14] (fun s14 wr => ∃ k m : Nat, s14 = .int .i64 k ∧ k ≤ vs.length ∧ wr = w8.drewN m) (fun s14 _ => vs.length - (intOf s14).toNat)
                  case atStart => exact ⟨0, 0, rfl, Nat.zero_le _, rfl⟩
                  case round =>
                    obtain ⟨k, m, rfl, hk, rfl⟩ := hrel
                    by_cases hlt : k < vs.length
                    · obtain ⟨gl, ol, cl', he, hcl, hDl, hbl, hcell⟩ := (HL.out.keep HG.out.mod (fun b hb _ e => HD.out b hb e)).form (by omega)
                      simp only [Value.slice.injEq] at he
                      obtain ⟨rfl, _, rfl⟩ := he
                      have q0 := hcell k vs[k] (List.getElem?_eq_getElem hlt)
                      have hkg : k < gs.length := by rw [HG.out.len]; exact hlt
                      have hp := HG.out.done k hlt hlt
                      obtain ⟨Ak, ck, hvk⟩ := hp.old.rd.slice
                      obtain ⟨Ag, cg, hgk⟩ := hp.own.rd.slice
                      have p1 : w8.cell? ⟨gg, k, none⟩ = some gs[k] := by rw [cell_of_row w8 gg k _ _ _ HG.out.row]; simp [hkg]
                      have hlg : gs.length = vs.length := HG.out.len
                      have hnk := Hn.out k hlt
                      have d1 : decide ((k : Int) < (vs.length : Int)) = true := by simpa using hlt
                      have e1 : (k : Int) < (vs.length : Int) := by omega
                      have hk4 : k < 400 := by omega
                      rw [hvk] at q0
                      rw [hgk] at p1
                      have hp2 := hp
                      rw [hvk, hgk] at hp2
                      have HP := Lib.hid hp2
                      clear hcell hDl hbl hp hp2 hgk hvk hkg hlg
                      go_wp2_with fail
                      go_loopw [15] (fun s15 wr => ∃ i m2 : Nat, s15 = .int .i64 i ∧ i ≤ n k ∧ wr = w8.drewN m2) (fun s15 _ => n k - (intOf s15).toNat)
                      case atStart => exact ⟨0, m, rfl, Nat.zero_le _, rfl⟩
                      case round =>
                        obtain ⟨i, m2, rfl, hi, rfl⟩ := hrel
                        by_cases hlto : i < n k
                        · have hia : i < (marksB k (n k) ++ marksB ((k + vs.length : Nat) : Int) 64).length := by rw [List.length_append, marksB_len, marksB_len]; omega
                          obtain ⟨b, o, c1, he, _, _, hcx⟩ := rd_byte (l := marksB k (n k) ++ marksB ((k + vs.length : Nat) : Int) 64) (by rw [List.length_append, marksB_len, marksB_len]; exact HP.out.own.rd) hia
                          rw [List.length_append, marksB_len, marksB_len] at he
                          simp only [Value.slice.injEq] at he
                          obtain ⟨rfl, _, rfl⟩ := he
                          rw [List.getElem_append_left (by rw [marksB_len]; exact hlto), marksB_get _ _ _ hlto] at hcx
                          have hik : i < 70368744177728 := by omega
                          have HCALL := Lib.hid (fun W : World => markB_any k i W (by omega) (by omega))
                          have hio : i < (marksB k (n k)).length := by rw [marksB_len]; exact hlto
                          have hold : Rd w8 (fun b => (Value.slice Ak (n k) ck).ownBlock = some b) 1 (.slice Ak (n k) ck) (marksB k (n k)).length (u8s (marksB k (n k))) := by
                            have h := HP.out.old.rd
                            rw [marksB_len]
                            rwa [u8s_append, List.take_left' (by rw [length_u8s, marksB_len]; omega)] at h
                          obtain ⟨b2, o2, c2, he, _, _, hcy⟩ := rd_byte (l := marksB k (n k)) hold hio
                          rw [marksB_len] at he
                          simp only [Value.slice.injEq] at he
                          obtain ⟨rfl, _, rfl⟩ := he
                          rw [marksB_get _ _ _ hlto] at hcy
                          have d3 : decide ((i : Int) < (n k : Int)) = true := by simpa using hlto
                          have e3 : (i : Int) < (n k : Int) := by omega
                          have d6 : decide ((i : Int) < ((n k + 64 : Nat) : Int)) = true := by simp; omega
                          have e6 : (i : Int) < ((n k + 64 : Nat) : Int) := by omega
                          generalize mB k i = x at *
                          have d4 : ((x.toNat : Int) == (x.toNat : Int)) = true := by simp
                          clear hold hio hia
                          go_wp2_with fail
                          go_quiet ((go_at_call 41; exact (HCALL.out _).mono (fun e w' h => ⟨h.1, _, h.2.symm⟩)))
                          go_wp2_with fail
                          exact ⟨⟨i + 1, _, by go_num, by omega, rfl⟩, by simp [intOf] <;> omega⟩
                        · have d3 : decide ((i : Int) < (n k : Int)) = false := by simpa using hlto
                          have e3 : ¬ (i : Int) < (n k : Int) := by omega
                          go_wp2_with fail
                          exact ⟨⟨k + 1, _, by go_num, by omega, rfl⟩, by simp [intOf] <;> omega⟩
                    · have d1 : decide ((k : Int) < (vs.length : Int)) = false := by simpa using hlt
                      have e1 : ¬ (k : Int) < (vs.length : Int) := by omega
                      go_wp2_with fail
                      go_ret
                      exact ⟨rfl, HG.out.mod.drewN _⟩

end Go.Proofs.YthbicfbhghcmkaaGreat
