/-
  MarkLives: a step, by the code and by the document.
-/
import Derived.Test.YthkbnhoebijdoaaRefN
import Derived.Test.YthkbnhoebijdoaaBoth
import Derived.Test.YthkbnhoebijdoaaArgK
import Derived.Deep.DeepCutAuto
namespace Go.Proofs.Ythkbnhoebijdoaa
open Go Go.RowKit Go.SM

set_option maxHeartbeats 4000000 in
set_option maxRecDepth 100000 in
theorem read25 {w0 w : World} {b ms mo r : Nat} {X : Nat → Prop} {s : DS} (h : Both w0 w b ms mo X r s) :
    Calls Try.prog 19 #[.pointer (some ⟨b, 0, none⟩), .pointer (some ⟨r, 0, none⟩)] w fun e w' => e = .returned (.bool true) ∧ Both w0 w' b ms mo X r s ∧ Mod none_ w w' := by
  have H := Lib.hid h
  have HLen := Lib.hid (fun k => h.len k)
  clear h
  obtain ⟨E, hE⟩ : ∃ E, (rdMT s).1 = E := ⟨_, rfl⟩
  obtain ⟨M, hM⟩ : ∃ M, (rdMT s).2 = M := ⟨_, rfl⟩
  have HE := Lib.hid hE
  have HM := Lib.hid hM
  clear hE hM
  go_enter Try.func19, Try.ntmps19
  go_wp2_with fail
  refine (mk_read H.out.live).mono ?_
  rintro e w1 ⟨rfl, _, hm1⟩
  rw [HE.out, HM.out]
  have H1 := Lib.hid (H.out.keep hm1)
  have HM1 := Lib.hid hm1
  clear hm1
  go_wp2_with (with_reducible refine at_ (o := ⟨some 5, .alloc _, _, _, _, _⟩) ?_)
  refine un (wpList_alloc rfl 27 rfl (mCells zeroM) (run_zeroM _) ?_)
  intro w2 g5 hb2 hm2 hs2
  go_frame
  go_wp2_with (with_reducible refine at_ (o := ⟨none, .store _ _ _, _, _, _, _⟩) ?_)
  refine un (wpList_store rfl 27 _ _ rfl g5 rfl [.int .i64 M.seq, .int .i64 M.turn, .int .i64 M.oldest, .int .i64 M.mark] rfl _ _ hb2 (mCells_size zeroM) (by rw [mst_size]; rfl) (mCells_one M) ?_)
  intro w3 hb3 hm3
  have hm23 : Mod none_ w1 w3 := hm2.trans hm3 (fun r e hr => by omega)
  have H3 := Lib.hid (H1.out.keep hm23)
  have HM3 := Lib.hid (HM1.out.trans' hm23)
  have HC3 := Lib.hid (show w3.heap[g5]? = some (.cells (mCells M) 27 (0, 0)) from hb3)
  clear hb2 hm2 hs2 hb3 hm3 hm23 H1 HM1
  go_frame
  go_wp2_with fail
  refine (rm_read H3.out.ref HLen.out).mono ?_
  rintro e w4 ⟨rfl, _, hm4⟩
  rw [HE.out, HM.out]
  have H4 := Lib.hid (H3.out.keep hm4)
  have HM4 := Lib.hid (HM3.out.trans' hm4)
  have HC4 := Lib.hid (hm4.get HC3.out (fun e => e))
  clear hm4 H3 HM3 HC3
  go_wp2_with (with_reducible refine at_ (o := ⟨some 7, .alloc _, _, _, _, _⟩) ?_)
  refine un (wpList_alloc rfl 64 rfl (mCells zeroM) (run_zeroR _) ?_)
  intro w5 g7 hb5 hm5 hs5
  go_frame
  go_wp2_with (with_reducible refine at_ (o := ⟨none, .store _ _ _, _, _, _, _⟩) ?_)
  refine un (wpList_store rfl 64 _ _ rfl g7 rfl [.int .i64 M.seq, .int .i64 M.turn, .int .i64 M.oldest, .int .i64 M.mark] rfl _ _ hb5 (mCells_size zeroM) (by rw [rmst_size]; rfl) (mCells_one M) ?_)
  intro w6 hb6 hm6
  have hm56 : Mod none_ w4 w6 := hm5.trans hm6 (fun r e hr => by omega)
  have H6 := Lib.hid (H4.out.keep hm56)
  have HM6 := Lib.hid (HM4.out.trans' hm56)
  have HC6 := Lib.hid (hm56.get HC4.out (fun e => e))
  have HD6 := Lib.hid (show w6.heap[g7]? = some (.cells (mCells M) 64 (0, 0)) from hb6)
  clear hb5 hm5 hs5 hb6 hm6 hm56 H4 HM4 HC4
  go_frame
  go_wp2_with fail
  have hload : ∀ W : World, Mod none_ w6 W → (W.cell? ⟨g5, 0, none⟩ = some (.int .i64 M.seq) ∧ W.cell? ⟨g5, 1, none⟩ = some (.int .i64 M.turn) ∧ W.cell? ⟨g5, 2, none⟩ = some (.int .i64 M.oldest) ∧ W.cell? ⟨g5, 3, none⟩ = some (.int .i64 M.mark)) ∧ (W.cell? ⟨g7, 0, none⟩ = some (.int .i64 M.seq) ∧ W.cell? ⟨g7, 1, none⟩ = some (.int .i64 M.turn) ∧ W.cell? ⟨g7, 2, none⟩ = some (.int .i64 M.oldest) ∧ W.cell? ⟨g7, 3, none⟩ = some (.int .i64 M.mark)) :=
    fun W hW => ⟨MstAt.of (m := M) (hW.get HC6.out (fun e => e)), MstAt.of (m := M) (hW.get HD6.out (fun e => e))⟩
  have HLO := Lib.hid hload
  clear hload
  have h6 := HLO.out w6 (Mod.refl _ _)
  go_region_held3 (fun W : World => (W.cell? ⟨g5, 0, none⟩ = some (.int .i64 M.seq) ∧ W.cell? ⟨g5, 1, none⟩ = some (.int .i64 M.turn) ∧ W.cell? ⟨g5, 2, none⟩ = some (.int .i64 M.oldest) ∧ W.cell? ⟨g5, 3, none⟩ = some (.int .i64 M.mark)) ∧ (W.cell? ⟨g7, 0, none⟩ = some (.int .i64 M.seq) ∧ W.cell? ⟨g7, 1, none⟩ = some (.int .i64 M.turn) ∧ W.cell? ⟨g7, 2, none⟩ = some (.int .i64 M.oldest) ∧ W.cell? ⟨g7, 3, none⟩ = some (.int .i64 M.mark)))
    (first | exact h6 | exact hS7)
    (first | (go_at_call 28; refine (show Calls Try.prog 28 #[.agg #[.int .i64 M.seq, .int .i64 M.turn, .int .i64 M.oldest, .int .i64 M.mark]] _ (fun e w' => e = .returned (.agg #[.int .i64 M.seq, .int .i64 M.turn, .int .i64 M.oldest, .int .i64 M.mark]) ∧ Mod none_ _ w') from of_any M _).mono ?_; rintro e w7 ⟨rfl, hm7⟩; have hS7 := HLO.out w7 hm7.of_drew))
  have H7 := Lib.hid (H6.out.keep hm7.of_drew)
  have HM7 := Lib.hid (HM6.out.trans' hm7.of_drew)
  clear hm7 hS7 h6
  go_wp2_with fail
  go_returns
  exact ⟨rfl, H7.out, HM7.out⟩


/-- a byte of a master's sector is another one -/
def rawS (s : DS) (x : DoM) : DS :=
  if mayE s (x.n % 2) ≠ 0 then s else
    let k := (if x.n.tmod 3 = 0 then (x.n.tdiv 2) % 512 else (x.n.tdiv 2) % 512 % 41).toNat
    (writeT s (x.n % 2) ((latS s (x.n % 2)).set k ((latS s (x.n % 2)).getD k 0 ^^^ x.byte))).2

/-- a step as a value -/
def dmV (x : DoM) (fv : Value) : Value := .agg #[.int .i64 x.op, .int .i64 x.n, .int .i64 x.m.seq, .int .i64 x.m.turn, .int .i64 x.m.oldest, .int .i64 x.m.mark, fv, .int .u8 (x.byte.toNat : Int)]

structure DmB (w : World) (g : Nat) (x : DoM) (fv : Value) : Prop where
  heap : ∃ t, w.heap[g]? = some (.cells #[.int .i64 x.op, .int .i64 x.n, .int .i64 x.m.seq, .int .i64 x.m.turn, .int .i64 x.m.oldest, .int .i64 x.m.mark, fv, .int .u8 (x.byte.toNat : Int)] t (0, 0))

section
variable {w w' : World} {g : Nat} {x : DoM} {fv : Value} {S : Nat → Prop}
theorem DmB.keep (h : DmB w g x fv) (hm : Mod S w w') (hn : ¬ S g) : DmB w' g x fv := by
  obtain ⟨t, hb⟩ := h.heap
  exact ⟨t, hm.get hb hn⟩
theorem DmB.lt (h : DmB w g x fv) : g < w.heap.size := by obtain ⟨t, hb⟩ := h.heap; exact blk_lt hb
theorem DmB.c0 (h : DmB w g x fv) : w.cell? ⟨g, 0, none⟩ = some (.int .i64 x.op) := by obtain ⟨t, hb⟩ := h.heap; rw [cell_of_row w g 0 _ _ _ hb]; rfl
theorem DmB.c1 (h : DmB w g x fv) : w.cell? ⟨g, 1, none⟩ = some (.int .i64 x.n) := by obtain ⟨t, hb⟩ := h.heap; rw [cell_of_row w g 1 _ _ _ hb]; rfl
theorem DmB.c2 (h : DmB w g x fv) : w.cell? ⟨g, 2, none⟩ = some (.int .i64 x.m.seq) := by obtain ⟨t, hb⟩ := h.heap; rw [cell_of_row w g 2 _ _ _ hb]; rfl
theorem DmB.c3 (h : DmB w g x fv) : w.cell? ⟨g, 3, none⟩ = some (.int .i64 x.m.turn) := by obtain ⟨t, hb⟩ := h.heap; rw [cell_of_row w g 3 _ _ _ hb]; rfl
theorem DmB.c4 (h : DmB w g x fv) : w.cell? ⟨g, 4, none⟩ = some (.int .i64 x.m.oldest) := by obtain ⟨t, hb⟩ := h.heap; rw [cell_of_row w g 4 _ _ _ hb]; rfl
theorem DmB.c5 (h : DmB w g x fv) : w.cell? ⟨g, 5, none⟩ = some (.int .i64 x.m.mark) := by obtain ⟨t, hb⟩ := h.heap; rw [cell_of_row w g 5 _ _ _ hb]; rfl
theorem DmB.c6 (h : DmB w g x fv) : w.cell? ⟨g, 6, none⟩ = some fv := by obtain ⟨t, hb⟩ := h.heap; rw [cell_of_row w g 6 _ _ _ hb]; rfl
theorem DmB.c7 (h : DmB w g x fv) : w.cell? ⟨g, 7, none⟩ = some (.int .u8 (x.byte.toNat : Int)) := by obtain ⟨t, hb⟩ := h.heap; rw [cell_of_row w g 7 _ _ _ hb]; rfl
end

theorem pick_in (x n : Int) (w : World) (hn : 1 ≤ n ∧ n ≤ 4611686018427387904) :
    Calls Try.prog 15 #[.int .i64 x, .int .i64 n] w fun e w' => ∃ k : Nat, e = .returned (.int .i64 (k : Int)) ∧ (k : Int) = x % n ∧ (k : Int) < n ∧ w = w' :=
  (pick_any x n w hn).mono fun e w' ⟨he, hw⟩ => by
    have h1 := Int.emod_nonneg x (show n ≠ 0 by omega)
    have h2 := Int.emod_lt_of_pos x (show 0 < n by omega)
    exact ⟨(x % n).toNat, by rw [he]; congr 2; omega, by omega, by omega, hw⟩

theorem u8_xor (a b : UInt8) : bits .xor .u8 (a.toNat : Int) (b.toNat : Int) = ((a ^^^ b).toNat : Int) := by
  have e : bits .xor .u8 (a.toNat : Int) (b.toNat : Int) = IntKind.u8.wrap ((BitVec.ofInt 8 (a.toNat : Int) ^^^ BitVec.ofInt 8 (b.toNat : Int)).toNat : Nat) := rfl
  have ha := a.toNat_lt
  have hb := b.toNat_lt
  have h1 : (BitVec.ofInt 8 (a.toNat : Int)).toNat = a.toNat := by rw [BitVec.toNat_ofInt]; omega
  have h2 : (BitVec.ofInt 8 (b.toNat : Int)).toNat = b.toNat := by rw [BitVec.toNat_ofInt]; omega
  have hx : a.toNat ^^^ b.toNat < 2 ^ 8 := Nat.xor_lt_two_pow ha hb
  rw [e, BitVec.toNat_xor, h1, h2, UInt8.toNat_xor, IntKind.wrap_u8]
  omega

theorem tdiv2_in {x : Int} (h : I64 x) : wrap64 (x.tdiv 2) = x.tdiv 2 := by
  unfold I64 at h
  apply IntWalk.wrap64_in
  by_cases h0 : 0 ≤ x
  · rw [Int.tdiv_eq_ediv_of_nonneg h0]; omega
  · have e : x.tdiv 2 = -((-x).tdiv 2) := by rw [Int.neg_tdiv]; omega
    rw [e, Int.tdiv_eq_ediv_of_nonneg (by omega)]
    omega

set_option maxHeartbeats 8000000 in
set_option maxRecDepth 100000 in
theorem raw25 {w0 w : World} {b ms mo r : Nat} {X : Nat → Prop} {s : DS} (h : Both w0 w b ms mo X r s) (x : DoM) (hxn : I64 x.n) (fv : Value) :
    Calls Try.prog 37 #[.pointer (some ⟨b, 0, none⟩), .pointer (some ⟨r, 0, none⟩), dmV x fv] w fun e w' => e = .returned (.bool true) ∧ Both w0 w' b ms mo X r (rawS s x) := by
  unfold dmV
  have H := Lib.hid h
  have hlen := h.len (x.n % 2)
  have hk0 := Int.emod_nonneg x.n (show (2 : Int) ≠ 0 by omega)
  have hk2 := Int.emod_lt_of_pos x.n (show (0 : Int) < 2 by omega)
  have HLen := Lib.hid hlen
  clear h hlen
  go_enter Try.func37, Try.ntmps37
  go_wp2_with (with_reducible refine at_ (o := ⟨some 5, .box _ _, _, _, _, _⟩) ?_)
  refine un (wpList_box rfl 47 _ rfl _ rfl ?_)
  intro w1 g1 hb1 hm1 hs1
  have HX1 := Lib.hid (show DmB w1 g1 x fv from ⟨_, hb1⟩)
  have H1 := Lib.hid (H.out.guard hm1)
  have HX := Lib.hid (show (fun k => X k ∨ (w.heap.size ≤ k ∧ k < w1.heap.size)) g1 from .inr ⟨hs1, blk_lt hb1⟩)
  have HXX := Lib.hid (show ∀ k, X k → (fun k => X k ∨ (w.heap.size ≤ k ∧ k < w1.heap.size)) k from fun k e => .inl e)
  have HSB := Lib.hid H.out.sub
  generalize (fun k => X k ∨ (w.heap.size ≤ k ∧ k < w1.heap.size)) = Y at *
  clear hb1 hm1 hs1
  have q1 := HX1.out.c1
  go_frame
  go_wp2_with fail
  refine (pick_any x.n 2 _ ⟨by omega, by omega⟩).mono ?_
  rintro e w' ⟨rfl, rfl⟩
  obtain ⟨at', hat⟩ : ∃ a, x.n % 2 = a := ⟨_, rfl⟩
  have HAt := Lib.hid hat
  rw [hat] at hk0 hk2 ⊢
  clear hat
  go_wp2_with fail
  refine (read_t H1.out.live.at_ at').mono ?_
  rintro e w2 ⟨v2, rfl, ho2, hm2⟩
  have H2 := Lib.hid (H1.out.keep hm2)
  have HX2 := Lib.hid (HX1.out.keep hm2 (fun e => e))
  have HM2 := Lib.hid hm2
  have HO2 := Lib.hid ho2
  clear hm2 ho2 q1 HX1
  go_wp2_with fail
  refine (rf_read H2.out.ref at').mono ?_
  rintro e w3 ⟨v3, rfl, ho3, hm3⟩
  have H3 := Lib.hid (H2.out.keep hm3)
  have HX3 := Lib.hid (HX2.out.keep hm3 (fun e => e))
  have HO3 := Lib.hid (HO2.out.keep hm3 (fun _ _ _ e => e))
  have HR3 := Lib.hid ho3.rd
  have HM3 := Lib.hid (HM2.out.trans' hm3)
  clear hm3 ho3 H2 HX2 HO2 HM2
  by_cases hm : mayE s at' = 0
  · have HRT := Lib.hid (readT_up hm)
    have HMay := Lib.hid hm
    have hl := H1.out.len at'
    have HL := Lib.hid hl
    have ho3' := HO3.out
    have hr3' := HR3.out
    rw [HRT.out] at ho3' hr3' ⊢
    clear HO3 HR3 hm hl
    have HRW := Lib.hid (show rawS s x = (writeT s at' ((latS s at').set (if x.n.tmod 3 = 0 then (x.n.tdiv 2) % 512 else (x.n.tdiv 2) % 512 % 41).toNat ((latS s at').getD (if x.n.tmod 3 = 0 then (x.n.tdiv 2) % 512 else (x.n.tdiv 2) % 512 % 41).toNat 0 ^^^ x.byte))).2 by
      unfold rawS
      rw [HAt.out, if_neg (by rw [HMay.out]; simp)])
    obtain ⟨l, hl⟩ : ∃ l, latS s at' = l := ⟨_, rfl⟩
    have hll := HL.out
    have hrw := HRW.out
    rw [hl] at ho3' hr3' hll hrw ⊢
    clear HRW HL
    have HRW := Lib.hid hrw
    have HL := Lib.hid hll
    have HO3 := Lib.hid ho3'
    have HR3 := Lib.hid hr3'
    clear hl ho3' hr3' hrw hll
    go_wp2_with fail
    refine (same_any HO3.out.rd HR3.out (by rw [HL.out]; omega)).mono ?_
    rintro e w4 ⟨rfl, hm4⟩
    rw [show decide (l = l) = true from decide_eq_true rfl]
    have H4 := Lib.hid (H3.out.keep hm4)
    have HX4 := Lib.hid (HX3.out.keep hm4 (fun e => e))
    have HO4 := Lib.hid (HO3.out.keep hm4 (fun _ _ _ e => e))
    have HM4 := Lib.hid (HM3.out.trans' hm4)
    clear hm4 H3 HX3 HO3 HR3 HM3
    have q1 := HX4.out.c1
    have q7 := HX4.out.c7
    have hsome := HO4.out
    rw [HL.out] at hsome
    obtain ⟨g4, c4, rfl, hD4, hl4⟩ := hsome.form1 (by omega)
    have HO5 := Lib.hid hsome
    clear hsome HO4
    go_wp2_with fail
    rw [tdiv2_in hxn]
    refine (pick_in (x.n.tdiv 2) 512 _ ⟨by omega, by omega⟩).mono ?_
    rintro e w' ⟨k, rfl, hk, hk5, rfl⟩
    have HK := Lib.hid hk
    clear hk
    go_upto_if 46 with (fail)
    go_cut [12] (fun s12 wx => ∃ kk : Nat, s12 = .int .i64 (kk : Int) ∧ kk < 512 ∧ (kk : Int) = (if x.n.tmod 3 = 0 then (x.n.tdiv 2) % 512 else (x.n.tdiv 2) % 512 % 41) ∧ wx = w4)
    case first =>
      by_cases h3 : x.n.tmod 3 = 0
      · have d3 : (x.n.tmod 3 != 0) = false := by simpa using h3
        have HKK := Lib.hid (show (k : Int) = (if x.n.tmod 3 = 0 then (x.n.tdiv 2) % 512 else (x.n.tdiv 2) % 512 % 41) by rw [if_pos h3]; exact HK.out)
        clear h3
        go_wp2_with fail
        go_meet
        exact ⟨k, rfl, by omega, HKK.out, rfl⟩
      · have d3 : (x.n.tmod 3 != 0) = true := by simpa using h3
        have HKK := Lib.hid (show ((k % 41 : Nat) : Int) = (if x.n.tmod 3 = 0 then (x.n.tdiv 2) % 512 else (x.n.tdiv 2) % 512 % 41) by rw [if_neg h3, ← HK.out]; omega)
        clear h3
        go_wp2_with fail
        go_meet
        exact ⟨k % 41, by go_num, by omega, HKK.out, rfl⟩
    case rest =>
      obtain ⟨kk, rfl, hkk, hkv, rfl⟩ := hcut
      have hkl : kk < l.length := by rw [HL.out]; exact hkk
      have q8 := HO5.out.cell (u8s_get l kk hkl)
      obtain ⟨cur, hcur, _⟩ := HO5.out.blk
      have f8 := frozen_of_row wc g4 kk _ _ hcur
      have j1 : (0 : Int) ≤ (kk : Int) := by omega
      have j2 : (kk : Int) < 512 := by omega
      have HKV := Lib.hid hkv
      have hset := HO5.out.set (i := kk) (SM.u8 (l[kk] ^^^ x.byte))
      have hm5 : Mod none_ w1 (wc.setCell ⟨g4, kk, none⟩ (SM.u8 (l[kk] ^^^ x.byte))) := HM4.out.trans ((Mod.refl (· = g4) wc).setCell (p := ⟨g4, kk, none⟩) (.inl rfl) _) (fun r e hr => by unfold Fr at hD4; omega)
      rw [show (u8s l).set kk (SM.u8 (l[kk] ^^^ x.byte)) = u8s (l.set kk (l[kk] ^^^ x.byte)) by unfold u8s; rw [List.map_set]] at hset
      have hrw := HRW.out
      rw [← hkv, show ((kk : Int)).toNat = kk by omega, show l.getD kk 0 = l[kk] by simp [hkl]] at hrw
      clear HRW hkv hcur
      have HRW := Lib.hid hrw
      have HSL := Lib.hid (show (l.set kk (l[kk] ^^^ x.byte)).length = 512 by rw [List.length_set]; exact HL.out)
      generalize hl2 : l.set kk (l[kk] ^^^ x.byte) = l2 at *
      clear hl2
      have q8' : wc.cell? ⟨g4, kk, none⟩ = some (.int .u8 (l[kk].toNat : Int)) := q8
      have hx8 := u8_xor l[kk] x.byte
      have hset' : OwnS (wc.setCell ⟨g4, kk, none⟩ (.int .u8 ((l[kk] ^^^ x.byte).toNat : Int))) _ _ _ _ _ _ := hset
      have hm5' : Mod none_ w1 (wc.setCell ⟨g4, kk, none⟩ (.int .u8 ((l[kk] ^^^ x.byte).toNat : Int))) := hm5
      clear q8 hset hm5
      rw [UInt8.toNat_xor] at hset' hm5' hx8
      have HSet := Lib.hid hset'
      have HM5 := Lib.hid hm5'
      clear hset' hm5'
      generalize l[kk] = c at *
      go_wp2_with fail
      go_region
      generalize wc.setCell ⟨g4, kk, none⟩ (.int .u8 ((c.toNat ^^^ x.byte.toNat : Nat) : Int)) = w5 at *
      clear q8' hx8 f8 q1 q7 HX4 HO5 H4 HM4
      have H5 := Lib.hid (H1.out.keep HM5.out.drew)
      have HM5d := Lib.hid HM5.out.drew
      have hsd : OwnS w5.drew (Fr w1) 5 1 (.slice (some ⟨g4, 0, none⟩) 512 c4) 512 (u8s l2) := HSet.out.keep ((Mod.refl none_ w5).drew) (fun _ _ _ e => e)
      have HSD := Lib.hid hsd
      clear hsd HSet HM5
      generalize w5.drew = w6 at *
      go_wp2_with fail
      refine (write_t H5.out.live.at_ at' (l := l2) (by rw [HSL.out]; exact HSD.out.rd)).mono ?_
      rintro e w7 ⟨rfl, hd7, hm7⟩
      have HL7 := Lib.hid (H5.out.live.turn hd7 hm7)
      have HM7 := Lib.hid ((HM5d.out.mono (S' := dkOwn b ms mo) (fun _ _ e => e.elim)).trans' hm7)
      have HSD7 := Lib.hid (HSD.out.rd.keep hm7 (fun k hk _ e => by have h1 := H1.out.live.at_.own_lt k e; unfold Fr at hk; omega))
      clear hd7 hm7 HSD
      go_wp2_with fail
      refine (rf_write_new H1.out.ref HM7.out H1.out.sub at' (l := l2) (by rw [HSL.out]; exact HSD7.out) (fun k hk _ => .inl hk)).mono ?_
      rintro e w8 ⟨rfl, hr8, hm8, _⟩
      have H8 := Lib.hid (H5.out.turn HL7.out hr8 hm8)
      clear hr8 hm8
      go_wp2_with fail
      go_returns
      rw [HRW.out]
      exact ⟨rfl, H8.out.back HXX.out HSB.out⟩
  · have HRT := Lib.hid (readT_no hm)
    have dz : (mayE s at' != 0) = true := by simpa using hm
    have HRW := Lib.hid (show rawS s x = s by unfold rawS; rw [HAt.out, if_pos hm])
    have ho3' := HO3.out
    have hr3' := HR3.out
    rw [HRT.out] at ho3' hr3' ⊢
    have HO3' := Lib.hid ho3'
    have HR3' := Lib.hid hr3'
    clear HO3 HR3 hm ho3' hr3'
    generalize mayE s at' = E at *
    go_wp2_with fail
    refine (same_any (l := []) (l' := []) HO3'.out.rd HR3'.out (by simp)).mono ?_
    rintro e w4 ⟨rfl, hm4⟩
    rw [show decide (([] : List UInt8) = []) = true from decide_eq_true rfl]
    have H4 := Lib.hid (H3.out.keep hm4)
    clear hm4
    go_wp2_with fail
    go_returns
    rw [HRW.out]
    exact ⟨rfl, H4.out.back HXX.out HSB.out⟩

end Go.Proofs.Ythkbnhoebijdoaa
