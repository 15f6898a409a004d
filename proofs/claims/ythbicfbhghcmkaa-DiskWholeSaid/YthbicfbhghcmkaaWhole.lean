/-
  DiskWhole: the walk.
-/
import Derived.Test.YthbicfbhghcmkaaArgs
import Derived.Test.YthbicfbhghcmkaaAwake
import Derived.Test.YthbicfbhghcmkaaCalm
import Derived.Laws.BitsAllLaws
namespace Go.Proofs.Ythbicfbhghcmkaa
open Go Go.RowKit Go.SM

/-- a sector as it is when it was written with a byte; 0: never -/
def secB (b : UInt8) : List UInt8 := if b = 0 then zs else fullB b
theorem secB_length (b : UInt8) : (secB b).length = 512 := by unfold secB; split <;> simp [zs_length, fullB_length]

/-- booleans as cells -/
def bools (l : List Bool) : List Value := l.map Value.bool

/-- the disk's state, and what the law has noted of it -/
structure WholeAt (L S : List UInt8) (O : List Bool) (s : DS) : Prop where
  n : s.n = 6
  a : s.armed = 0
  d : s.down = false
  lL : L.length = 6
  lS : S.length = 6
  lO : O.length = 6
  fo : ∀ k : Nat, k < 6 → s.fo k = if O.getD k false then some (fullB (L.getD k 0)) else none
  fs : ∀ k : Nat, k < 6 → (s.fs k).getD zs = secB (S.getD k 0)
  nz : ∀ k : Nat, k < 6 → O.getD k false = true → L.getD k 0 ≠ 0
  eq : ∀ k : Nat, k < 6 → O.getD k false = false → L.getD k 0 = S.getD k 0

theorem WholeAt.start : WholeAt (List.replicate 6 0) (List.replicate 6 0) (List.replicate 6 false) (newS 6) := by
  refine ⟨rfl, rfl, rfl, rfl, rfl, rfl, ?_, ?_, ?_, ?_⟩
  · intro k hk; match k, hk with | 0, _ | 1, _ | 2, _ | 3, _ | 4, _ | 5, _ => rfl
  · intro k hk; match k, hk with | 0, _ | 1, _ | 2, _ | 3, _ | 4, _ | 5, _ => rfl
  · intro k hk; match k, hk with | 0, _ | 1, _ | 2, _ | 3, _ | 4, _ | 5, _ => intro h; cases h
  · intro k hk; match k, hk with | 0, _ | 1, _ | 2, _ | 3, _ | 4, _ | 5, _ => intro h; rfl

theorem secB_nz {b : UInt8} (h : b ≠ 0) : secB b = fullB b := by unfold secB; rw [if_neg h]

theorem WholeAt.write {L S : List UInt8} {O : List Bool} {s : DS} (h : WholeAt L S O s) (k : Nat) (hk : k < 6) (b : UInt8) (hb : b ≠ 0) :
    WholeAt (L.set k b) S (O.set k true) { s with fo := put s.fo k (fullB b) } := by
  have g1 : ∀ i, (L.set k b).getD i 0 = if i = k then b else L.getD i 0 := by
    intro i
    simp only [List.getD_eq_getElem?_getD, List.getElem?_set]
    by_cases e : i = k
    · subst e; simp [h.lL, hk]
    · simp [Ne.symm e, e]
  have g2 : ∀ i, (O.set k true).getD i false = if i = k then true else O.getD i false := by
    intro i
    simp only [List.getD_eq_getElem?_getD, List.getElem?_set]
    by_cases e : i = k
    · subst e; simp [h.lO, hk]
    · simp [Ne.symm e, e]
  refine ⟨h.n, h.a, h.d, by simp [h.lL], h.lS, by simp [h.lO], ?_, h.fs, ?_, ?_⟩
  · intro i hi
    rw [g1, g2]
    by_cases e : i = k
    · subst e; simp [put]
    · have : (i : Int) ≠ k := by omega
      simp only [put, if_neg e, if_neg this]; exact h.fo i hi
  · intro i hi
    rw [g1, g2]
    by_cases e : i = k
    · simp only [if_pos e]; exact fun _ => hb
    · simp only [if_neg e]; exact h.nz i hi
  · intro i hi
    rw [g1, g2]
    by_cases e : i = k
    · simp only [if_pos e]; intro h; cases h
    · simp only [if_neg e]; exact h.eq i hi

theorem WholeAt.sync {L S : List UInt8} {O : List Bool} {s : DS} (h : WholeAt L S O s) : WholeAt L L (List.replicate 6 false) (flushS s) := by
  have g : ∀ k, k < 6 → (List.replicate 6 false).getD k false = false := by
    intro k hk; match k, hk with | 0, _ | 1, _ | 2, _ | 3, _ | 4, _ | 5, _ => rfl
  refine ⟨h.n, h.a, h.d, h.lL, h.lL, rfl, ?_, ?_, ?_, ?_⟩
  · intro k hk; rw [g k hk]; rfl
  · intro k hk
    show ((over s.fo s.fs k)).getD zs = _
    unfold over
    rw [h.fo k hk]
    cases ho : O.getD k false with
    | true => simp only [if_true]; rw [secB_nz (h.nz k hk ho), Option.getD_some]
    | false => simp only [Bool.false_eq_true, if_false]; rw [h.eq k hk ho]; exact h.fs k hk
  · intro k hk e; rw [g k hk] at e; cases e
  · intro k hk e; rfl

/-- the byte that a sector stands for behind a crash -/
def fromB (L S : List UInt8) (O : List Bool) (k : Nat) (kept : Bool) : UInt8 := if O.getD k false && kept then L.getD k 0 else S.getD k 0

theorem WholeAt.wake {L S : List UInt8} {O : List Bool} {s : DS} (h : WholeAt L S O s) (ks : List Int) (k : Nat) (hk : k < 6) :
    latS (wakeS s ks) k = secB (fromB L S O k (decide ((k : Int) ∈ ks))) := by
  show ((wakeFs ks s.fo s.fs k)).getD zs = _
  unfold wakeFs fromB over
  rw [h.fo k hk]
  by_cases e : (k : Int) ∈ ks
  · simp only [e, if_true, decide_true, Bool.and_true]
    cases ho : O.getD k false with
    | true => simp only [if_true]; rw [secB_nz (h.nz k hk ho), Option.getD_some]
    | false => simp only [Bool.false_eq_true, if_false]; exact h.fs k hk
  · simp only [e, if_false, decide_false, Bool.and_false, Bool.false_eq_true]
    exact h.fs k hk

theorem z6 : (Try.prog.info? 27).bind (·.zero) = some (.agg (u8s (List.replicate 6 0)).toArray) := by kernel_rfl
theorem z6b : (Try.prog.info? 28).bind (·.zero) = some (.agg (bools (List.replicate 6 false)).toArray) := by kernel_rfl
theorem run_z6 (w : World) : (zeroValue 27).run Try.prog w = .ok (.agg (u8s (List.replicate 6 0)).toArray) w := by
  obtain ⟨i, hi, hz⟩ := Option.bind_eq_some_iff.1 z6
  simp [zeroValue, typeInfo, hi, hz]
theorem run_z6b (w : World) : (zeroValue 28).run Try.prog w = .ok (.agg (bools (List.replicate 6 false)).toArray) w := by
  obtain ⟨i, hi, hz⟩ := Option.bind_eq_some_iff.1 z6b
  simp [zeroValue, typeInfo, hi, hz]
theorem s6 : (Try.prog.info? 27).map (·.size) = some 6 := by kernel_rfl
theorem s6b : (Try.prog.info? 28).map (·.size) = some 6 := by kernel_rfl

/-- the law's three arrays -/
def ArrAt (w : World) (g1 g2 g3 : Nat) (L S : List UInt8) (O : List Bool) : Prop :=
  w.heap[g1]? = some (.cells (u8s L).toArray 27 (0, 0)) ∧ w.heap[g2]? = some (.cells (u8s S).toArray 27 (0, 0)) ∧ w.heap[g3]? = some (.cells (bools O).toArray 28 (0, 0)) ∧
  g1 ≠ g2 ∧ g1 ≠ g3 ∧ g2 ≠ g3

theorem ArrAt.keep {w w' : World} {P : Nat → Prop} {g1 g2 g3 : Nat} {L S : List UInt8} {O : List Bool} (h : ArrAt w g1 g2 g3 L S O) (hm : Mod P w w') (h1 : ¬ P g1) (h2 : ¬ P g2) (h3 : ¬ P g3) : ArrAt w' g1 g2 g3 L S O :=
  ⟨hm.get h.1 h1, hm.get h.2.1 h2, hm.get h.2.2.1 h3, h.2.2.2⟩

theorem run_build0 (w : World) : (Instr.build 28 #[]).run Try.prog w = .ok (.agg (bools (List.replicate 6 false)).toArray) w := by
  obtain ⟨i, hi, hz⟩ := Option.bind_eq_some_iff.1 z6b
  have hb : (Try.prog.info? 4).map (·.size) = some 1 := by kernel_rfl
  obtain ⟨i2, hi2, hz2⟩ := Option.map_eq_some_iff.1 hb
  have hu : Try.prog.underlying 28 = some (.array 6 4) := Try.underlying28
  simp [Instr.build, zeroValue, typeInfo, hi, hz, run_underlying hu, sizeOf, hi2, Instr.fill, Value.cells]

theorem kept_step (k : Int) (ks : List Int) (j : Nat) (h : j < ks.length) : decide (k ∈ ks.take (j + 1)) = (decide (k ∈ ks.take j) || (ks[j] == k)) := by
  rw [List.take_succ_eq_append_getElem h, Bool.eq_iff_iff, Bool.or_eq_true, decide_eq_true_iff, decide_eq_true_iff, beq_iff_eq, List.mem_append, List.mem_singleton, eq_comm (a := k)]

theorem sec_cell (F : UInt8) (j : Nat) (h : j < 512) : (u8s (secB F))[j]? = some (.int .u8 (if F = 0 then 0 else ((F.toNat : Int) + (j : Int) / 64) % 256)) := by
  unfold secB
  by_cases e : F = 0
  · rw [if_pos e, if_pos e, u8s_get?, zs, List.getElem?_replicate, if_pos h]; rfl
  · rw [if_neg e, if_neg e, u8s_get?, fullB_get F j h, Option.map_some, SM.u8, byte_add]

theorem or1 (b : UInt8) : bits .or .u8 (b.toNat : Int) 1 = ((b ||| 1).toNat : Int) := by
  rw [show (1 : Int) = ((1 : Nat) : Int) from rfl, Go.u8_or_nat b.toNat 1 b.toNat_lt (by decide), UInt8.toNat_or]
  rfl
theorem or1_ne (b : UInt8) : b ||| 1 ≠ 0 := by
  intro h
  have h1 : (b ||| 1).toNat = 0 := by rw [h]; rfl
  rw [UInt8.toNat_or] at h1
  have h2 : (1 : UInt8).toNat ≤ b.toNat ||| (1 : UInt8).toNat := Nat.right_le_or
  rw [h1] at h2
  exact absurd h2 (by decide)

theorem bools_set (O : List Bool) (k : Nat) (b : Bool) : (bools O).toArray.setIfInBounds k (.bool b) = (bools (O.set k b)).toArray := by
  rw [List.setIfInBounds_toArray]; simp [bools, List.map_set]
theorem u8s_set (O : List UInt8) (k : Nat) (b : UInt8) : (u8s O).toArray.setIfInBounds k (.int .u8 (b.toNat : Int)) = (u8s (O.set k b)).toArray := by
  rw [List.setIfInBounds_toArray]; simp [u8s, SM.u8, List.map_set]

set_option maxHeartbeats 4000000 in
set_option maxRecDepth 100000 in
theorem whole_walk (w : World) (v : Value) (xs : List DoD) (hx : RdDos w (Old w) v xs) (fv : Value) (ks : List Int) (hf : Rd w (Old w) 1 fv ks.length (ints ks)) (hc : xs.length ≤ 80 ∧ ks.length ≤ 1000) :
    Calls Try.prog 3 #[v, fv] w fun e w' => e = .returned (.bool true) ∧ Mod none_ w w' := by
  obtain ⟨A, c, hv, hlc⟩ := hx.slice
  subst hv
  obtain ⟨AF, cf, hvf⟩ := hf.slice
  subst hvf
  have HX := Lib.hid hx
  have HF := Lib.hid hf
  have d1 : decide ((80 : Int) < (xs.length : Int)) = false := by simp; omega
  have d2 : decide ((1000 : Int) < (ks.length : Int)) = false := by simp; omega
  clear hx hf
  go_enter Try.func3, Try.ntmps3
  go_wp2_with fail
  refine (awake_any _).mono ?_
  rintro e w1 ⟨rfl, hm1⟩
  have HM1 := Lib.hid hm1
  have HX1 := Lib.hid (HX.out.keep hm1 (fun _ _ _ e => e))
  have HF1 := Lib.hid (HF.out.keep hm1 (fun _ _ _ e => e))
  clear hm1
  go_wp2_with fail
  refine (new_yes 6 _ ⟨by omega, by omega⟩).mono ?_
  rintro e w2 ⟨b, ms, mo, rfl, hd2, hm2, hb, hms, hmo⟩
  have HB := Lib.hid (show w.heap.size ≤ b ∧ w.heap.size ≤ ms ∧ w.heap.size ≤ mo by have h1 := HM1.out.size; omega)
  have HD2 := Lib.hid hd2
  have HM2 := Lib.hid (HM1.out.trans' hm2)
  have HX2 := Lib.hid (HX1.out.keep hm2 (fun _ _ _ e => e))
  have HF2 := Lib.hid (HF1.out.keep hm2 (fun _ _ _ e => e))
  clear hd2 hm2 hb hms hmo
  go_wp2_with (with_reducible refine at_ (o := ⟨some 6, _, _, _, _, _⟩) ?_)
  refine un (wpList_alloc rfl 27 rfl _ (run_z6 _) ?_)
  intro w3 g1 hb3 hm3 hs3
  go_frame
  go_wp2_with (with_reducible refine at_ (o := ⟨some 7, _, _, _, _, _⟩) ?_)
  refine un (wpList_alloc rfl 27 rfl _ (run_z6 _) ?_)
  intro w4 g2 hb4 hm4 hs4
  go_frame
  go_wp2_with (with_reducible refine at_ (o := ⟨some 8, _, _, _, _, _⟩) ?_)
  refine un (wpList_alloc rfl 28 rfl _ (run_z6b _) ?_)
  intro w5 g3 hb5 hm5 hs5
  have hm25 := (hm3.trans' hm4).trans' hm5
  have HA := Lib.hid (show ArrAt w5 g1 g2 g3 (List.replicate 6 0) (List.replicate 6 0) (List.replicate 6 false) from
    ⟨(hm4.trans' hm5).get hb3 (fun e => e), hm5.get hb4 (fun e => e), hb5, by have := blk_lt hb3; have := blk_lt hb4; omega⟩)
  have HG := Lib.hid (show (w.heap.size ≤ g1 ∧ w.heap.size ≤ g2 ∧ w.heap.size ≤ g3) ∧ ¬ dkOwn b ms mo g1 ∧ ¬ dkOwn b ms mo g2 ∧ ¬ dkOwn b ms mo g3 by
    have h0 := HM2.out.size
    have h1 := HD2.out.own_lt
    have h3 := hm3.size
    have h4 := hm4.size
    exact ⟨by omega, fun e => by have := h1 _ e; omega, fun e => by have := h1 _ e; omega, fun e => by have := h1 _ e; omega⟩)
  have HD5 := Lib.hid (HD2.out.keep hm25 (fun _ _ e => e))
  have HM5 := Lib.hid (HM2.out.trans' hm25)
  have HX5 := Lib.hid (HX2.out.keep hm25 (fun _ _ _ e => e))
  have HF5 := Lib.hid (HF2.out.keep hm25 (fun _ _ _ e => e))
  have HC := Lib.hid hc
  have hx80 := hc.1
  have hk1000 := hc.2
  clear hm25 hm3 hm4 hm5 hb3 hb4 hb5 hs3 hs4 hs5 HX1 HX2 HF1 HF2 HM1 HM2 HD2 HX HF hc
  go_frame
  go_wp2_with fail
  go_loopw [9] (fun i wr => ∃ (j : Nat) (s : DS) (L S : List UInt8) (O : List Bool), i = .int .i64 j ∧ j ≤ xs.length ∧ DkAt wr b ms mo s ∧ WholeAt L S O s ∧ ArrAt wr g1 g2 g3 L S O ∧ Mod none_ w wr ∧ RdDos wr (Old w) (.slice A xs.length c) xs ∧ Rd wr (Old w) 1 (.slice AF ks.length cf) ks.length (ints ks)) (fun i _ => xs.length - (intOf i).toNat)
  case atStart => exact ⟨0, _, _, _, _, rfl, Nat.zero_le _, HD5.out, WholeAt.start, HA.out, HM5.out, HX5.out, HF5.out⟩
  case round =>
    obtain ⟨j, s, L, S, O, rfl, hj, hd, ha, harr, hm, hxs, hfs⟩ := hrel
    have HD := Lib.hid hd
    have HW := Lib.hid ha
    have HR := Lib.hid harr
    have HM := Lib.hid hm
    have HXS := Lib.hid hxs
    have HFS := Lib.hid hfs
    clear hd ha harr hm hxs hfs HD5 HA HM5 HX5 HF5
    by_cases hlt : j < xs.length
    · obtain ⟨g, o, c', he, hDg, hgl, hat, hok⟩ := HXS.out.at_ hlt
      simp only [Value.slice.injEq] at he
      obtain ⟨rfl, hlen, rfl⟩ := he
      obtain ⟨q0, q1, q2, q3, _⟩ := hat
      clear hlen
      have d3 : decide ((j : Int) < (xs.length : Int)) = true := by simpa using hlt
      obtain ⟨k, hk⟩ : ∃ k : Nat, xs[j].sector % 6 = k := ⟨(xs[j].sector % 6).toNat, by have := Int.emod_nonneg xs[j].sector (show (6 : Int) ≠ 0 by omega); omega⟩
      have hk6 : k < 6 := by have := Int.emod_lt_of_pos xs[j].sector (show (0 : Int) < 6 by omega); omega
      clear q2
      go_wp2_with fail
      refine (pick_any _ 6 _ ⟨by omega, by omega⟩).mono ?_
      rintro e w' ⟨rfl, rfl⟩
      rw [hk]
      go_wp2_with fail
      refine (pick_any _ 4 _ ⟨by omega, by omega⟩).mono ?_
      rintro e w' ⟨rfl, rfl⟩
      rw [or1]
      have HO1 := Lib.hid (or1_ne xs[j].byte)
      generalize xs[j].byte ||| 1 = y at *
      by_cases hop : xs[j].op % 4 = 0
      · have d4 : (xs[j].op % 4 == 0) = true := by simpa using hop
        clear q0 q1 q3 hk
        go_wp2_with fail
        refine (sync_calm HD.out HW.out.a HW.out.d).mono ?_
        rintro e w6 ⟨rfl, hd6, hm6⟩
        have HD6 := Lib.hid hd6
        have HM6 := Lib.hid (modOwn HM.out hm6 HB.out)
        have HR6 := Lib.hid (HR.out.keep hm6 HG.out.2.1 HG.out.2.2.1 HG.out.2.2.2)
        have HX6 := Lib.hid (HXS.out.keep hm6 (fun r hr hl e => by have h2 := HB.out; unfold Old at hr; rcases e with rfl | rfl | rfl <;> omega))
        have HF6 := Lib.hid (HFS.out.keep hm6 (fun r hr hl e => by have h2 := HB.out; unfold Old at hr; rcases e with rfl | rfl | rfl <;> omega))
        clear hd6 hm6 d4 hop
        go_wp2_with (with_reducible refine at_ (o := ⟨some 71, _, _, _, _, _⟩) ?_)
        refine un (wpList_load rfl 27 _ rfl g1 0 rfl (u8s L) _ Try.underlying27 rfl (block_cells HR6.out.1) (by rw [s6]; simp [HW.out.lL]) ?_)
        refine wpList_store rfl 27 _ _ rfl g2 rfl (u8s L) rfl _ _ HR6.out.2.1 (by simp [HW.out.lL, HW.out.lS]) (by rw [s6]; simp [HW.out.lL]) (u8s_one L) ?_
        intro w7 hb7 hm7
        have HM7 := Lib.hid (show Mod none_ w w7 from HM6.out.trans hm7 (fun r e hr => by have h1 := HG.out.1; omega))
        have HR7 := Lib.hid (show ArrAt w7 g1 g2 g3 L L O from ⟨hm7.get HR6.out.1 HR6.out.2.2.2.1, hb7, hm7.get HR6.out.2.2.1 (Ne.symm HR6.out.2.2.2.2.2), HR6.out.2.2.2⟩)
        have HD7 := Lib.hid (HD6.out.keep hm7 (fun r hr e => HG.out.2.2.1 (e ▸ hr)))
        have HX7 := Lib.hid (HX6.out.keep hm7 (fun r hr hl e => by have h1 := HG.out.1; unfold Old at hr; omega))
        have HF7 := Lib.hid (HF6.out.keep hm7 (fun r hr hl e => by have h1 := HG.out.1; unfold Old at hr; omega))
        clear hm7 hb7 HX6 HF6 HD6 HR6 HM6
        refine wpList_nil ?_
        go_frame
        go_wp2_with (with_reducible refine at_ (o := ⟨some 72, _, _, _, _, _⟩) ?_)
        refine un (wpList_val (s := Instr.build 28 #[]) rfl (by simp [execOp]) (run_build0 _) ?_)
        refine wpList_store rfl 28 _ _ rfl g3 rfl (bools (List.replicate 6 false)) rfl _ _ HR7.out.2.2.1 (by simp [bools, HW.out.lO]) (by rw [s6b]; rfl) (by decide) ?_
        intro w8 hb8 hm8
        have HM8 := Lib.hid (show Mod none_ w w8 from HM7.out.trans hm8 (fun r e hr => by have h1 := HG.out.1; omega))
        have HR8 := Lib.hid (show ArrAt w8 g1 g2 g3 L L (List.replicate 6 false) from ⟨hm8.get HR7.out.1 HR7.out.2.2.2.2.1, hm8.get HR7.out.2.1 HR7.out.2.2.2.2.2, hb8, HR7.out.2.2.2⟩)
        have HD8 := Lib.hid (HD7.out.keep hm8 (fun r hr e => HG.out.2.2.2 (e ▸ hr)))
        have HX8 := Lib.hid (HX7.out.keep hm8 (fun r hr hl e => by have h1 := HG.out.1; unfold Old at hr; omega))
        have HF8 := Lib.hid (HF7.out.keep hm8 (fun r hr hl e => by have h1 := HG.out.1; unfold Old at hr; omega))
        clear hm8 hb8 HX7 HF7 HD7 HR7 HM7
        refine wpList_nil ?_
        go_frame
        go_wp2_with fail
        exact ⟨⟨j + 1, _, _, _, _, by go_num, by omega, HD8.out, HW.out.sync, HR8.out, HM8.out, HX8.out, HF8.out⟩, by simp [intOf]; omega⟩
      · have d4 : (xs[j].op % 4 == 0) = false := by rw [beq_eq_false_iff_ne]; exact hop
        have dk : (k : Int) < 6 := by omega
        clear q0 q1 q3 hk
        go_wp2_with fail
        refine (full_any y _).mono ?_
        rintro e w5' ⟨v5, rfl, ho5, hm5⟩
        have HO5 := Lib.hid ho5.rd
        have HD5 := Lib.hid (HD.out.keep hm5 (fun _ _ e => e))
        have HM5 := Lib.hid (HM.out.trans' hm5)
        have HR5 := Lib.hid (HR.out.keep hm5 (fun e => e) (fun e => e) (fun e => e))
        have HX5 := Lib.hid (HXS.out.keep hm5 (fun r hr hl e => e))
        have HF5 := Lib.hid (HFS.out.keep hm5 (fun r hr hl e => e))
        clear hm5 ho5
        go_wp2_with fail
        refine (write_calm HD5.out k HO5.out HW.out.a HW.out.d ⟨by omega, by rw [HW.out.n]; omega⟩).mono ?_
        rintro e w6 ⟨rfl, hd6, hm6⟩
        have HD6 := Lib.hid hd6
        have HM6 := Lib.hid (modOwn HM5.out hm6 HB.out)
        have HR6 := Lib.hid (HR5.out.keep hm6 HG.out.2.1 HG.out.2.2.1 HG.out.2.2.2)
        have HX6 := Lib.hid (HX5.out.keep hm6 (fun r hr hl e => by have h2 := HB.out; unfold Old at hr; rcases e with rfl | rfl | rfl <;> omega))
        have HF6 := Lib.hid (HF5.out.keep hm6 (fun r hr hl e => by have h2 := HB.out; unfold Old at hr; rcases e with rfl | rfl | rfl <;> omega))
        have HW6 := Lib.hid (HW.out.write k hk6 y HO1.out)
        have c1 : ∃ u, w6.cell? ⟨g1, k, none⟩ = some u := ⟨(u8s L)[k]'(by simp [HW.out.lL, hk6]), by rw [cell_of_row w6 g1 k _ _ _ HR6.out.1]; simp [HW.out.lL, hk6]⟩
        have c3 : ∃ u, w6.cell? ⟨g3, k, none⟩ = some u := ⟨(bools O)[k]'(by simp [bools, HW.out.lO, hk6]), by rw [cell_of_row w6 g3 k _ _ _ HR6.out.2.2.1]; simp [bools, HW.out.lO, hk6]⟩
        obtain ⟨u1, c1⟩ := c1
        obtain ⟨u3, c3⟩ := c3
        have f1 : w6.frozen? ⟨g1, k, none⟩ = false := frozen_of_row w6 g1 k _ _ HR6.out.1
        have f3 : w6.frozen? ⟨g3, k, none⟩ = false := frozen_of_row w6 g3 k _ _ HR6.out.2.2.1
        have g13 : g3 ≠ g1 := Ne.symm HR6.out.2.2.2.2.1
        have g31 : g1 ≠ g3 := HR6.out.2.2.2.2.1
        clear hd6 hm6 d4 hop HX5 HF5 HR5 HM5 HD5
        go_wp2_with fail
        have hb1 := heap_setCell_same w6 g1 k _ _ (Value.int .u8 (y.toNat : Int)) HR6.out.1
        have hb2 : (w6.setCell ⟨g1, k, none⟩ (Value.int .u8 (y.toNat : Int))).heap[g3]? = _ := (Below.heap_setCell w6 ⟨g1, k, none⟩ _ g3 g13).trans HR6.out.2.2.1
        have hb3 := heap_setCell_same _ g3 k _ _ (Value.bool true) hb2
        have hb4 := (Below.heap_setCell (w6.setCell ⟨g1, k, none⟩ (Value.int .u8 (y.toNat : Int))) ⟨g3, k, none⟩ (Value.bool true) g1 g31).trans hb1
        rw [bools_set] at hb3
        rw [u8s_set] at hb4
        have hm7 : Mod (fun r => r = g1 ∨ r = g3) w6 ((w6.setCell ⟨g1, k, none⟩ (Value.int .u8 (y.toNat : Int))).setCell ⟨g3, k, none⟩ (.bool true)) :=
          ((Mod.refl _ w6).setCell (p := ⟨g1, k, none⟩) (.inl (.inl rfl)) _).setCell (p := ⟨g3, k, none⟩) (.inl (.inr rfl)) _
        generalize (w6.setCell ⟨g1, k, none⟩ (Value.int .u8 (y.toNat : Int))).setCell ⟨g3, k, none⟩ (.bool true) = w7 at *
        have h1 := HG.out.1
        refine ⟨⟨j + 1, _, _, _, _, by go_num, by omega, HD6.out.keep hm7 (fun r hr e => e.elim (fun e => HG.out.2.1 (e ▸ hr)) (fun e => HG.out.2.2.2 (e ▸ hr))), HW6.out, ⟨hb4, ?_, hb3, HR6.out.2.2.2⟩, HM6.out.trans hm7 (fun r e hr => by rcases e with rfl | rfl <;> omega), HX6.out.keep hm7 (fun r hr hl e => by unfold Old at hr; rcases e with rfl | rfl <;> omega), HF6.out.keep hm7 (fun r hr hl e => by unfold Old at hr; rcases e with rfl | rfl <;> omega)⟩, by simp [intOf]; omega⟩
        exact hm7.get HR6.out.2.1 (fun e => e.elim (fun e => HR6.out.2.2.2.1 e.symm) (fun e => HR6.out.2.2.2.2.2 e))
    · have d3 : decide ((j : Int) < (xs.length : Int)) = false := by simpa using hlt
      go_wp2_with fail
      refine (wake_any HD.out HFS.out (fun r hr _ e => by have h2 := HB.out; unfold Old at hr; rcases e with rfl | rfl | rfl <;> omega) (by have := HC.out; omega)).mono ?_
      rintro e w6 ⟨rfl, hd6, hm6⟩
      have HD6 := Lib.hid hd6
      have HM6 := Lib.hid (modOwn HM.out hm6 HB.out)
      have HR6 := Lib.hid (HR.out.keep hm6 HG.out.2.1 HG.out.2.2.1 HG.out.2.2.2)
      have HF6 := Lib.hid (HFS.out.keep hm6 (fun r hr hl e => by have h2 := HB.out; unfold Old at hr; rcases e with rfl | rfl | rfl <;> omega))
      clear hd6 hm6 d3 HXS HFS HR HM HD hlt hlc hj
      go_wp2_with fail
      go_loopw [12] (fun i wr => ∃ (k : Nat), i = .int .i64 k ∧ k ≤ 6 ∧ DkAt wr b ms mo (wakeS s ks) ∧ ArrAt wr g1 g2 g3 L S O ∧ Mod none_ w wr ∧ Rd wr (Old w) 1 (.slice AF ks.length cf) ks.length (ints ks)) (fun i _ => 6 - (intOf i).toNat)
      case atStart => exact ⟨0, rfl, Nat.zero_le _, HD6.out, HR6.out, HM6.out, HF6.out⟩
      case round =>
        obtain ⟨k, rfl, hk, hd, harr, hm, hfs⟩ := hrel
        have HD := Lib.hid hd
        have HR := Lib.hid harr
        have HM := Lib.hid hm
        have HFS := Lib.hid hfs
        clear hd harr hm hfs HD6 HR6 HM6 HF6
        by_cases hk6 : k < 6
        · have dk : decide ((k : Int) < 6) = true := by simp; omega
          go_wp2_with fail
          go_loopw [13, 14] (fun a i wr' => ∃ (j m : Nat), i = .int .i64 j ∧ a = .bool (decide ((k : Int) ∈ ks.take j)) ∧ j ≤ ks.length ∧ wr' = wr.drewN m) (fun _ i _ => ks.length - (intOf i).toNat)
          case atStart => exact ⟨0, 0, rfl, by simp, Nat.zero_le _, rfl⟩
          case round =>
            obtain ⟨j, m, rfl, rfl, hj, rfl⟩ := hrel
            by_cases hlt : j < ks.length
            · have d3 : decide ((j : Int) < (ks.length : Int)) = true := by simpa using hlt
              have HT := Lib.hid (show ks.take (j + 1) = ks.take j ++ [ks[j]] from List.take_succ_eq_append_getElem hlt)
              obtain ⟨g, o, c', he, hc', hDg, hgl, hcell⟩ := HFS.out.form (by omega)
              simp only [Value.slice.injEq] at he
              obtain ⟨rfl, hlen, rfl⟩ := he
              clear hlen
              have q := hcell j (.int .i64 ks[j]) (by simp [ints, hlt])
              have d3' : (j : Int) < ks.length := by omega
              clear hcell
              cases hin : decide ((k : Int) ∈ ks.take j) with
              | true =>
                have HI := Lib.hid hin
                clear hin
                go_wp2_with fail
                exact ⟨⟨j + 1, m, by go_num, by rw [kept_step _ _ _ hlt, HI.out]; rfl, by omega, rfl⟩, by simp [intOf]; omega⟩
              | false =>
                have HI := Lib.hid hin
                clear hin
                cases heq : (ks[j] == (k : Int)) with
                | true =>
                  go_wp2_with fail
                  try go_quiet (fail)
                  try go_wp2_with fail
                  exact ⟨⟨j + 1, _, by go_num, by rw [kept_step _ _ _ hlt, HI.out, heq]; rfl, by omega, rfl⟩, by simp [intOf]; omega⟩
                | false =>
                  go_wp2_with fail
                  try go_quiet (fail)
                  try go_wp2_with fail
                  exact ⟨⟨j + 1, _, by go_num, by rw [kept_step _ _ _ hlt, HI.out, heq]; rfl, by omega, rfl⟩, by simp [intOf]; omega⟩
            · have hj2 : ks.take j = ks := List.take_of_length_le (by omega)
              rw [hj2]
              have HMm := Lib.hid (HM.out.drewN m)
              have HDm := Lib.hid (HD.out.keep ((SM.Mod.refl none_ _).drewN m) (fun _ _ e => e))
              have HRm := Lib.hid (HR.out.keep ((SM.Mod.refl none_ _).drewN m) (fun e => e) (fun e => e) (fun e => e))
              have HFm := Lib.hid (HFS.out.keep ((SM.Mod.refl none_ _).drewN m) (fun _ _ _ e => e))
              generalize wr.drewN m = w7 at *
              have HLat := Lib.hid (HW.out.wake ks k hk6)
              have HFrom := Lib.hid (show fromB L S O k (decide ((k : Int) ∈ ks)) = if O.getD k false && decide ((k : Int) ∈ ks) then L.getD k 0 else S.getD k 0 from rfl)
              generalize fromB L S O k (decide ((k : Int) ∈ ks)) = F at *
              generalize decide ((k : Int) ∈ ks) = kept at *
              have d3 : decide ((j : Int) < (ks.length : Int)) = false := by simpa using hlt
              clear hj hj2 HD HR HM HFS
              go_wp2_with fail
              refine (read_is HDm.out k HLat.out rfl ⟨by omega, by show (k : Int) < s.n; rw [HW.out.n]; omega⟩).mono ?_
              rintro e w8 ⟨v8, rfl, ho8, hm8⟩
              obtain ⟨b8, o8, c8, rfl, _, hD8, _, hc8⟩ := ho8.rd.form (by omega)
              have HC8 := Lib.hid hc8
              have HD8 := Lib.hid (HDm.out.keep hm8 (fun _ _ e => e))
              have HR8 := Lib.hid (HRm.out.keep hm8 (fun e => e) (fun e => e) (fun e => e))
              have HF8 := Lib.hid (HFm.out.keep hm8 (fun _ _ _ e => e))
              have HM8 := Lib.hid (HMm.out.trans' hm8)
              have cS : w8.cell? ⟨g2, k, none⟩ = some (.int .u8 ((S.getD k 0).toNat : Int)) := by rw [cell_of_row w8 g2 k _ _ _ HR8.out.2.1]; simp [u8s, SM.u8, HW.out.lS, hk6]
              have cL : w8.cell? ⟨g1, k, none⟩ = some (.int .u8 ((L.getD k 0).toNat : Int)) := by rw [cell_of_row w8 g1 k _ _ _ HR8.out.1]; simp [u8s, SM.u8, HW.out.lL, hk6]
              have cO : w8.cell? ⟨g3, k, none⟩ = some (.bool (O.getD k false)) := by rw [cell_of_row w8 g3 k _ _ _ HR8.out.2.2.1]; simp [bools, HW.out.lO, hk6]
              clear hm8 ho8 hc8 hD8 HFm HRm HDm HMm
              have dk6 : (k : Int) < 6 := by omega
              go_wp2_with fail
              go_loopw [17] (fun i wr' => ∃ (j m : Nat), i = .int .i64 j ∧ j ≤ 512 ∧ wr' = w8.drewN m) (fun i _ => 512 - (intOf i).toNat)
              case atStart => exact ⟨0, 0, rfl, Nat.zero_le _, rfl⟩
              case round =>
                obtain ⟨j, m, rfl, hj, rfl⟩ := hrel
                by_cases hlt : j < 512
                · have d3 : decide ((j : Int) < 512) = true := by simp; omega
                  have d512 : (j : Int) < 512 := by omega
                  generalize O.getD k false = ok at *
                  generalize S.getD k 0 = sk at *
                  generalize L.getD k 0 = lk at *
                  cases ok with
                  | true =>
                    cases kept with
                    | true =>
                      have hF : F = lk := HFrom.out
                      subst hF
                      by_cases hz : F = 0
                      · have dz : ((F.toNat : Int) == 0) = true := by rw [hz]; rfl
                        have q := HC8.out j _ (sec_cell F j hlt)
                        rw [if_pos hz] at q
                        go_wp2_with fail
                        try go_quiet (fail)
                        try go_wp2_with fail
                        exact ⟨⟨j + 1, _, by go_num, by omega, rfl⟩, by simp [intOf]; omega⟩
                      · have dz : ((F.toNat : Int) == 0) = false := by
                          rw [beq_eq_false_iff_ne]
                          intro e
                          exact hz (UInt8.toNat_inj.1 (by rw [UInt8.toNat_zero]; omega))
                        have q := HC8.out j _ (sec_cell F j hlt)
                        rw [if_neg hz] at q
                        go_wp2_with fail
                        try go_quiet (fail)
                        try go_wp2_with fail
                        exact ⟨⟨j + 1, _, by go_num, by omega, rfl⟩, by simp [intOf]; omega⟩
                    | false =>
                      have hF : F = sk := HFrom.out
                      subst hF
                      by_cases hz : F = 0
                      · have dz : ((F.toNat : Int) == 0) = true := by rw [hz]; rfl
                        have q := HC8.out j _ (sec_cell F j hlt)
                        rw [if_pos hz] at q
                        go_wp2_with fail
                        try go_quiet (fail)
                        try go_wp2_with fail
                        exact ⟨⟨j + 1, _, by go_num, by omega, rfl⟩, by simp [intOf]; omega⟩
                      · have dz : ((F.toNat : Int) == 0) = false := by
                          rw [beq_eq_false_iff_ne]
                          intro e
                          exact hz (UInt8.toNat_inj.1 (by rw [UInt8.toNat_zero]; omega))
                        have q := HC8.out j _ (sec_cell F j hlt)
                        rw [if_neg hz] at q
                        go_wp2_with fail
                        try go_quiet (fail)
                        try go_wp2_with fail
                        exact ⟨⟨j + 1, _, by go_num, by omega, rfl⟩, by simp [intOf]; omega⟩
                  | false =>
                    have hF : F = sk := HFrom.out
                    subst hF
                    by_cases hz : F = 0
                    · have dz : ((F.toNat : Int) == 0) = true := by rw [hz]; rfl
                      have q := HC8.out j _ (sec_cell F j hlt)
                      rw [if_pos hz] at q
                      go_wp2_with fail
                      try go_quiet (fail)
                      try go_wp2_with fail
                      exact ⟨⟨j + 1, _, by go_num, by omega, rfl⟩, by simp [intOf]; omega⟩
                    · have dz : ((F.toNat : Int) == 0) = false := by
                        rw [beq_eq_false_iff_ne]
                        intro e
                        exact hz (UInt8.toNat_inj.1 (by rw [UInt8.toNat_zero]; omega))
                      have q := HC8.out j _ (sec_cell F j hlt)
                      rw [if_neg hz] at q
                      go_wp2_with fail
                      try go_quiet (fail)
                      try go_wp2_with fail
                      exact ⟨⟨j + 1, _, by go_num, by omega, rfl⟩, by simp [intOf]; omega⟩
                · have d3 : decide ((j : Int) < 512) = false := by simp; omega
                  go_wp2_with fail
                  exact ⟨⟨k + 1, by go_num, by omega, HD8.out.keep ((SM.Mod.refl none_ _).drewN m) (fun _ _ e => e), HR8.out.keep ((SM.Mod.refl none_ _).drewN m) (fun e => e) (fun e => e) (fun e => e), HM8.out.drewN m, HF8.out.keep ((SM.Mod.refl none_ _).drewN m) (fun _ _ _ e => e)⟩, by simp [intOf]; omega⟩
        · have dk : decide ((k : Int) < 6) = false := by simp; omega
          go_wp2_with fail
          go_ret
          exact ⟨rfl, HM.out⟩

theorem whole_big (w : World) (A : Option Addr) (n c : Nat) (AF : Option Addr) (m cf : Nat) (h : 80 < n ∨ 1000 < m) :
    Calls Try.prog 3 #[.slice A n c, .slice AF m cf] w fun e w' => e = .returned (.bool true) ∧ Mod none_ w w' := by
  by_cases h80 : 80 < n
  · have d1 : decide ((80 : Int) < (n : Int)) = true := by simp; omega
    go_enter Try.func3, Try.ntmps3
    go_wp2_with fail
    refine (awake_any _).mono ?_
    rintro e w1 ⟨rfl, hm1⟩
    have HM1 := Lib.hid hm1
    clear hm1
    go_wp2_with fail
    go_ret
    exact ⟨rfl, HM1.out⟩
  · have d1 : decide ((80 : Int) < (n : Int)) = false := by simp; omega
    have h1000 : 1000 < m := by omega
    have d2 : decide ((1000 : Int) < (m : Int)) = true := by simp; omega
    go_enter Try.func3, Try.ntmps3
    go_wp2_with fail
    refine (awake_any _).mono ?_
    rintro e w1 ⟨rfl, hm1⟩
    have HM1 := Lib.hid hm1
    clear hm1
    go_wp2_with fail
    go_ret
    exact ⟨rfl, HM1.out⟩

theorem whole_any (w : World) (v : Value) (xs : List DoD) (hx : RdDos w (Old w) v xs) (fv : Value) (ks : List Int) (hf : Rd w (Old w) 1 fv ks.length (ints ks)) :
    Calls Try.prog 3 #[v, fv] w fun e w' => e = .returned (.bool true) ∧ Mod none_ w w' := by
  by_cases h : xs.length ≤ 80 ∧ ks.length ≤ 1000
  · exact whole_walk w v xs hx fv ks hf h
  · have h2 : 80 < xs.length ∨ 1000 < ks.length := by omega
    clear h
    obtain ⟨A, c, rfl, _⟩ := hx
    obtain ⟨AF, cf, rfl, _⟩ := hf
    exact whole_big w A _ c AF _ cf h2

end Go.Proofs.Ythbicfbhghcmkaa
