/-
  The document's masters: May, Of.
-/
import Derived.Test.YthkbnhoebijdoaaRefD
import Derived.Test.YthkbnhoebijdoaaMarkK
import Derived.BigRegion
import Derived.IntWalk
namespace Go.Proofs.Ythkbnhoebijdoaa
open Go Go.RowKit Go.SM

theorem wrap_mod (x : Int) : wrap64 (x % 18446744073709551616) = wrap64 x := by unfold wrap64; omega

/-- a step of the code's, as a sum -/
theorem step8_sum (a : Int) (c : UInt8) : step8 a c = wrap64 (a * 256 + (c.toNat : Int)) := by
  have hc : c.toNat < 256 := c.toNat_lt
  obtain ⟨n, hn⟩ : ∃ n : Nat, (n : Int) = a % 72057594037927936 := ⟨(a % 72057594037927936).toNat, by omega⟩
  unfold step8
  have e2 : wrap64 (c.toNat : Int) = ((c.toNat : Nat) : Int) := by unfold wrap64; omega
  rw [e2]
  have key : (BitVec.ofInt 64 (wrap64 (a * 256)) ||| BitVec.ofInt 64 ((c.toNat : Nat) : Int)).toNat = n * 256 + c.toNat := by
    rw [BitVec.toNat_or, BitVec.toNat_ofInt, BitVec.toNat_ofInt]
    have a1 : ((wrap64 (a * 256)) % ((2 ^ 64 : Nat) : Int)).toNat = n * 256 := by unfold wrap64; omega
    have a2 : (((c.toNat : Nat) : Int) % ((2 ^ 64 : Nat) : Int)).toNat = c.toNat := by omega
    rw [a1, a2]
    have h := Nat.shiftLeft_add_eq_or_of_lt (b := c.toNat) (i := 8) (by omega) n
    rw [Nat.shiftLeft_eq] at h
    exact h.symm
  show IntKind.i64.wrap ((BitVec.ofInt 64 (wrap64 (a * 256)) ||| BitVec.ofInt 64 ((c.toNat : Nat) : Int)).toNat : Nat) = _
  rw [key, IntKind.wrap_i64]
  unfold wrap64
  omega

/-- the document's four numbers -/
def uN (l : List UInt8) : Nat → List Int
  | 0 => [0, 0, 0, 0]
  | k + 1 => (uN l k).set (k / 8) ((256 * (uN l k).getD (k / 8) 0 + ((l.getD k 0).toNat : Int)) % 18446744073709551616)
theorem uN_succ (l : List UInt8) (k q : Nat) (hq : q = k / 8) : uN l (k + 1) = (uN l k).set q ((256 * (uN l k).getD q 0 + ((l.getD k 0).toNat : Int)) % 18446744073709551616) := by rw [uN, hq]
theorem uN_length (l : List UInt8) (k : Nat) : (uN l k).length = 4 := by
  induction k with
  | zero => rfl
  | succ k ih => rw [uN, List.length_set, ih]
theorem uN_range (l : List UInt8) (k : Nat) : ∀ x ∈ uN l k, 0 ≤ x ∧ x < 18446744073709551616 := by
  induction k with
  | zero => intro x hx; simp [uN] at hx; subst hx; omega
  | succ k ih =>
    intro x hx
    rw [uN] at hx
    rcases List.mem_or_eq_of_mem_set hx with h | h
    · exact ih x h
    · subst h; omega
theorem uN_st (l : List UInt8) (k : Nat) : stN l k = (uN l k).map wrap64 := by
  have w0 : wrap64 0 = 0 := by unfold wrap64; omega
  induction k with
  | zero => simp only [stN, uN, List.map_cons, List.map_nil, w0]
  | succ k ih =>
    rw [stN, uN, List.map_set, ih, step8_sum]
    congr 1
    have hg : ((uN l k).map wrap64).getD (k / 8) 0 = wrap64 ((uN l k).getD (k / 8) 0) := by
      rw [List.getD_eq_getElem?_getD, List.getD_eq_getElem?_getD, List.getElem?_map]
      cases (uN l k)[k / 8]? with
      | none => exact w0.symm
      | some x => rfl
    rw [hg, wrap_mod]
    unfold wrap64
    omega

def uints (l : List Int) : List Value := l.map (Value.int .u64)
theorem run_four_u (w : World) : (zeroValue 94).run Try.prog w = .ok (.agg (uints [0, 0, 0, 0]).toArray) w := by
  have h : (Try.prog.info? 94).bind (·.zero) = some (.agg (uints [0, 0, 0, 0]).toArray) := by kernel_rfl
  obtain ⟨i, hi, hz⟩ := Option.bind_eq_some_iff.1 h
  simp [zeroValue, typeInfo, hi, hz]

theorem run_buildR (w : World) : (Instr.build 64 #[]).run Try.prog w = .ok (mV zeroM) w := by
  have h : (Try.prog.info? 64).bind (·.zero) = some (mV zeroM) := by kernel_rfl
  obtain ⟨i, hi, hz⟩ := Option.bind_eq_some_iff.1 h
  have h8 : (Try.prog.info? 2).map (·.size) = some 1 := by kernel_rfl
  obtain ⟨i8, hi8, hz8⟩ := Option.map_eq_some_iff.1 h8
  have hu : Try.prog.underlying 64 = _ := Try.underlying64
  simp [Instr.build, zeroValue, typeInfo, hi, hz, run_underlying hu, sizeOf, hi8, Instr.fill, Value.cells, mV]

set_option maxHeartbeats 1000000 in
theorem may_ref (m : Mst) (w : World) : Calls Try.prog 49 #[mV m] w fun e w' => e = .returned (.bool m.may) ∧ Mod none_ w w' := by
  unfold mV mCells
  have hmay : m.may = ((decide (1 ≤ m.seq) && decide (m.seq ≤ 2305843009213693952)) && (decide (1 ≤ m.turn) && decide (m.turn ≤ 2147483647)) && (decide (1 ≤ m.oldest) && decide (m.oldest ≤ 1152921504606846976)) && (decide (0 ≤ m.mark) && decide (m.mark ≤ 1152921504606846976))) := rfl
  have HMY := Lib.hid hmay
  clear hmay
  go_enter Try.func49, Try.ntmps49
  go_wp2_with (with_reducible refine at_ (o := ⟨some 1, .box _ _, _, _, _, _⟩) ?_)
  refine un (wpList_box rfl 64 _ rfl _ rfl ?_)
  intro w1 g hb1 hm1 hs1
  obtain ⟨c0, c1, c2, c3⟩ := MstAt.of (m := m) hb1
  have HM := Lib.hid hm1
  clear hb1 hm1 hs1
  go_frame
  by_cases h1 : 1 ≤ m.seq
  · by_cases h2 : m.seq ≤ 2305843009213693952
    · by_cases h3 : 1 ≤ m.turn
      · by_cases h4 : m.turn ≤ 2147483647
        · by_cases h5 : 1 ≤ m.oldest
          · by_cases h6 : m.oldest ≤ 1152921504606846976
            · by_cases h7 : 0 ≤ m.mark
              · have d1 := decide_eq_true h1
                have d2 := decide_eq_true h2
                have d3 := decide_eq_true h3
                have d4 := decide_eq_true h4
                have d5 := decide_eq_true h5
                have d6 := decide_eq_true h6
                have d7 := decide_eq_true h7
                have HD := Lib.hid (show m.may = decide (m.mark ≤ 1152921504606846976) by rw [HMY.out, d1, d2, d3, d4, d5, d6, d7]; rfl)
                go_wp2_with fail
                go_returns
                exact ⟨by rw [HD.out]; rfl, HM.out⟩
              · have d1 := decide_eq_true h1
                have d2 := decide_eq_true h2
                have d3 := decide_eq_true h3
                have d4 := decide_eq_true h4
                have d5 := decide_eq_true h5
                have d6 := decide_eq_true h6
                have d7 := decide_eq_false h7
                have HD := Lib.hid (show m.may = false by rw [HMY.out, d7]; simp only [Bool.and_false, Bool.false_and])
                go_wp2_with fail
                go_returns
                exact ⟨by rw [HD.out]; rfl, HM.out⟩
            · have d1 := decide_eq_true h1
              have d2 := decide_eq_true h2
              have d3 := decide_eq_true h3
              have d4 := decide_eq_true h4
              have d5 := decide_eq_true h5
              have d6 := decide_eq_false h6
              have HD := Lib.hid (show m.may = false by rw [HMY.out, d6]; simp only [Bool.and_false, Bool.false_and])
              go_wp2_with fail
              go_returns
              exact ⟨by rw [HD.out]; rfl, HM.out⟩
          · have d1 := decide_eq_true h1
            have d2 := decide_eq_true h2
            have d3 := decide_eq_true h3
            have d4 := decide_eq_true h4
            have d5 := decide_eq_false h5
            have HD := Lib.hid (show m.may = false by rw [HMY.out, d5]; simp only [Bool.and_false, Bool.false_and])
            go_wp2_with fail
            go_returns
            exact ⟨by rw [HD.out]; rfl, HM.out⟩
        · have d1 := decide_eq_true h1
          have d2 := decide_eq_true h2
          have d3 := decide_eq_true h3
          have d4 := decide_eq_false h4
          have HD := Lib.hid (show m.may = false by rw [HMY.out, d4]; simp only [Bool.and_false, Bool.false_and])
          go_wp2_with fail
          go_returns
          exact ⟨by rw [HD.out]; rfl, HM.out⟩
      · have d1 := decide_eq_true h1
        have d2 := decide_eq_true h2
        have d3 := decide_eq_false h3
        have HD := Lib.hid (show m.may = false by rw [HMY.out, d3]; simp only [Bool.and_false, Bool.false_and])
        go_wp2_with fail
        go_returns
        exact ⟨by rw [HD.out]; rfl, HM.out⟩
    · have d1 := decide_eq_true h1
      have d2 := decide_eq_false h2
      have HD := Lib.hid (show m.may = false by rw [HMY.out, d2]; simp only [Bool.and_false, Bool.false_and])
      go_wp2_with fail
      go_returns
      exact ⟨by rw [HD.out]; rfl, HM.out⟩
  · have d1 := decide_eq_false h1
    have HD := Lib.hid (show m.may = false by rw [HMY.out, d1]; simp only [Bool.false_and])
    go_wp2_with fail
    go_returns
    exact ⟨by rw [HD.out]; rfl, HM.out⟩


def ofM (bb : List UInt8) (i : Nat) : Mst := if okM bb i then parseM bb else zeroM

set_option maxHeartbeats 4000000 in
set_option maxRecDepth 100000 in
/-- the document's master of a sector -/
theorem of_ref {w : World} {D : Nat → Prop} {v : Value} {bb : List UInt8} (hx : Rd w D 1 v 512 (u8s bb)) (hlen : bb.length = 512) (i : Nat) :
    Calls Try.prog 50 #[v, .int .i64 i] w fun e w' => e = .returned (.tuple #[mV (ofM bb i), .bool (okM bb i)]) ∧ Mod none_ w w' := by
  obtain ⟨b8, o8, c8, rfl, hc8, _, hb8, hq8⟩ := hx.form (by omega)
  have HQ8 := Lib.hid hq8
  have HLen := Lib.hid hlen
  have HB8 := Lib.hid hb8
  have HC8 := Lib.hid hc8
  clear hx hq8 hlen hb8
  go_enter Try.func50, Try.ntmps50
  go_wp2_with (with_reducible refine at_ (o := ⟨some 4, .alloc _, _, _, _, _⟩) ?_)
  refine un (wpList_alloc rfl 64 rfl (mCells zeroM) (run_zeroR _) ?_)
  intro w1 g4 hb1 hm1 hs1
  have HM1 := Lib.hid hm1
  have HC4 := Lib.hid hb1
  clear hb1 hm1
  go_frame
  go_wp2_with (with_reducible refine at_ (o := ⟨some 6, .alloc _, _, _, _, _⟩) ?_)
  refine un (wpList_alloc rfl 94 rfl _ (run_four_u _) ?_)
  intro w5 g6 hb5 hm5 hs5
  have HM5 := Lib.hid (HM1.out.trans' hm5)
  have HC5 := Lib.hid (hm5.get HC4.out (fun e => e))
  have HB5 := Lib.hid hb5
  have HQ5 := Lib.hid (show ∀ k : Nat, k < 32 → w5.cell? ⟨b8, o8 + (8 + k), none⟩ = some (.int .u8 (((bb.drop 8).getD k 0).toNat : Int)) from fun k hk => by
    have hlt : 8 + k < bb.length := by rw [HLen.out]; omega
    have h1 := HQ8.out (8 + k) _ (u8s_get bb (8 + k) hlt)
    rw [(HM5.out.cell (p := ⟨b8, o8 + (8 + k), none⟩) HB8.out (fun e => e)).trans h1]
    simp [SM.u8, hlt])
  have HG6 := Lib.hid (show w.heap.size ≤ g6 ∧ w.heap.size ≤ g4 ∧ g4 ≠ g6 ∧ b8 ≠ g6 from by
    have h1 := HM1.out.size
    have h4 := blk_lt HC4.out
    have h5 := HB8.out
    exact ⟨by omega, by omega, by omega, by omega⟩)
  clear hb5 hm5 hs5 hs1 HC4
  go_frame
  go_wp2_with fail
  go_loopw [7] (fun i wr => ∃ k : Nat, i = .int .i64 k ∧ k ≤ 32 ∧ wr.heap[g6]? = some (.cells (uints (uN (bb.drop 8) k)).toArray 94 (0, 0)) ∧ Mod (· = g6) w5 wr) (fun i _ => 32 - (intOf i).toNat)
  case atStart => exact ⟨0, rfl, Nat.zero_le _, HB5.out, Mod.refl _ _⟩
  case round =>
    obtain ⟨k, rfl, hk, hb, hm⟩ := hrel
    have HB6 := Lib.hid hb
    have HM6 := Lib.hid hm
    clear hb hm
    by_cases hk32 : k < 32
    · have d2 : decide ((k : Int) < 32) = true := by simp; omega
      have dk : (k : Int) < 32 := by omega
      obtain ⟨q, hq⟩ : ∃ q : Nat, q = k / 8 := ⟨_, rfl⟩
      have e8 : (k : Int) / 8 = (q : Int) := by omega
      have hq4 : (q : Int) < 4 := by omega
      have hq0 : (0 : Int) ≤ (q : Int) := by omega
      have HST6 := Lib.hid (show uN (bb.drop 8) (k + 1) = (uN (bb.drop 8) k).set q ((256 * (uN (bb.drop 8) k).getD q 0 + (((bb.drop 8).getD k 0).toNat : Int)) % 18446744073709551616) from uN_succ _ _ _ hq)
      have q1 : wr.cell? ⟨b8, o8 + (8 + k), none⟩ = some (.int .u8 (((bb.drop 8).getD k 0).toNat : Int)) :=
        (HM6.out.cell (p := ⟨b8, o8 + (8 + k), none⟩) (Nat.lt_of_lt_of_le HB8.out HM5.out.size) (fun e => HG6.out.2.2.2 e)).trans (HQ5.out k hk32)
      have hql : q < (uN (bb.drop 8) k).length := by rw [uN_length]; omega
      have q2 : wr.cell? ⟨g6, q, none⟩ = some (.int .u64 ((uN (bb.drop 8) k).getD q 0)) := by
        rw [cell_of_row wr g6 q _ _ _ HB6.out]
        simp [uints, hql]
      have f2 : wr.frozen? ⟨g6, q, none⟩ = false := frozen_of_row wr g6 q _ _ HB6.out
      have hrng := uN_range (bb.drop 8) k ((uN (bb.drop 8) k).getD q 0) (by
        rw [List.getD_eq_getElem?_getD, List.getElem?_eq_getElem hql]
        exact List.getElem_mem _)
      have HQL := Lib.hid hql
      have HQ := Lib.hid hq
      have hcr : ((bb.drop 8).getD k 0).toNat < 256 := ((bb.drop 8).getD k 0).toNat_lt
      have w8 : IntKind.i64.wrap (8 + (k : Int)) = ((8 + k : Nat) : Int) := by rw [IntWalk.i64_in _ (by omega)]; omega
      have w8b : ((8 + k : Nat) : Int) < 512 := by omega
      have w8c : (0 : Int) ≤ ((8 + k : Nat) : Int) := by omega
      clear hql hq
      generalize (bb.drop 8).getD k 0 = c at *
      generalize (uN (bb.drop 8) k).getD q 0 = a at *
      go_wp2_with fail
      go_region
      have hval : IntKind.u64.wrap (IntKind.u64.wrap (256 * a) + (c.toNat : Int)) = (256 * a + (c.toNat : Int)) % 18446744073709551616 := by rw [IntKind.wrap_u64, IntKind.wrap_u64]; omega
      rw [hval]
      have hb7 := heap_setCell_same wr g6 q _ _ (Value.int .u64 ((256 * a + (c.toNat : Int)) % 18446744073709551616)) HB6.out
      have hm7 : Mod (· = g6) w5 (wr.setCell ⟨g6, q, none⟩ (Value.int .u64 ((256 * a + (c.toNat : Int)) % 18446744073709551616))) := HM6.out.setCell (p := ⟨g6, q, none⟩) (.inl rfl) _
      rw [List.setIfInBounds_toArray, show (uints (uN (bb.drop 8) k)).set q (Value.int .u64 ((256 * a + (c.toNat : Int)) % 18446744073709551616)) = uints (uN (bb.drop 8) (k + 1)) by rw [HST6.out, uints, uints, List.map_set]] at hb7
      have HB7 := Lib.hid hb7
      have HM7 := Lib.hid hm7
      generalize wr.setCell ⟨g6, q, none⟩ (Value.int .u64 ((256 * a + (c.toNat : Int)) % 18446744073709551616)) = w7 at *
      clear hval hb7 hm7 w8
      go_wp2_with fail
      exact ⟨⟨k + 1, by go_num, by omega, HB7.out, HM7.out.drew⟩, by simp [intOf]; omega⟩
    · obtain rfl : k = 32 := by omega
      have hl4 := uN_length (bb.drop 8) 32
      have hcell : ∀ t : Nat, t < 4 → wr.cell? ⟨g6, t, none⟩ = some (.int .u64 ((uN (bb.drop 8) 32).getD t 0)) := fun t ht => by
        have htl : t < (uN (bb.drop 8) 32).length := by omega
        rw [cell_of_row wr g6 t _ _ _ HB6.out]
        simp [uints, htl]
      have hpm : parseM bb = ⟨wrap64 ((uN (bb.drop 8) 32).getD 0 0), wrap64 ((uN (bb.drop 8) 32).getD 1 0), wrap64 ((uN (bb.drop 8) 32).getD 2 0), wrap64 ((uN (bb.drop 8) 32).getD 3 0)⟩ := by
        have hg : ∀ t, t < 4 → (stN (bb.drop 8) 32).getD t 0 = wrap64 ((uN (bb.drop 8) 32).getD t 0) := fun t ht => by
          rw [uN_st, List.getD_eq_getElem?_getD, List.getD_eq_getElem?_getD, List.getElem?_map, List.getElem?_eq_getElem (by omega)]
          rfl
        rw [parseM_eq, hg 0 (by omega), hg 1 (by omega), hg 2 (by omega), hg 3 (by omega)]
      have e0 := hcell 0 (by omega)
      have e1 := hcell 1 (by omega)
      have e2 := hcell 2 (by omega)
      have e3 := hcell 3 (by omega)
      have HPM := Lib.hid hpm
      have HOF := Lib.hid (show ofM bb i = if okM bb i then parseM bb else zeroM by rw [ofM])
      have HOK := Lib.hid (show okM bb i = ((parseM bb).may && ((parseM bb).seq % 2 == (i : Int)) && decide (secM (parseM bb) = bb)) by rw [okM])
      have HM6' := Lib.hid (show Mod none_ w wr from HM5.out.trans HM6.out (fun r e hr => by have := HG6.out.1; omega))
      have HC6 := Lib.hid (HM6.out.get HC5.out (fun e => HG6.out.2.2.1 e))
      clear hcell hpm hl4 HB5 HQ5 HC5 HM5 HM1
      generalize (uN (bb.drop 8) 32).getD 0 0 = x0 at *
      generalize (uN (bb.drop 8) 32).getD 1 0 = x1 at *
      generalize (uN (bb.drop 8) 32).getD 2 0 = x2 at *
      generalize (uN (bb.drop 8) 32).getD 3 0 = x3 at *
      go_wp2_with (with_reducible refine at_ (o := ⟨some 8, .alloc _, _, _, _, _⟩) ?_)
      refine un (wpList_alloc rfl 64 rfl (mCells zeroM) (run_zeroR _) ?_)
      intro w8 g8 hb8 hm8 hs8
      clear e0 e1 e2 e3
      go_frame
      go_wp2_with (with_reducible refine at_ (o := ⟨none, .store _ _ _, _, _, _, _⟩) ?_)
      refine un (wpList_store rfl 64 _ _ rfl g8 rfl [.int .i64 (wrap64 x0), .int .i64 (wrap64 x1), .int .i64 (wrap64 x2), .int .i64 (wrap64 x3)] rfl _ _ hb8 (mCells_size zeroM) (by rw [rmst_size]; rfl) (mCells_one ⟨wrap64 x0, wrap64 x1, wrap64 x2, wrap64 x3⟩) ?_)
      intro w9 hb9 hm9
      have hm89 : Mod none_ wr w9 := hm8.trans hm9 (fun r e hr => by omega)
      have HB9 := Lib.hid (show w9.heap[g8]? = some (.cells (mCells (parseM bb)) 64 (0, 0)) by rw [HPM.out]; exact hb9)
      have HM9 := Lib.hid (HM6'.out.trans' hm89)
      have HC9 := Lib.hid (hm89.get HC6.out (fun e => e))
      clear hm8 hm9 hm89 hb8 hb9 hs8 HPM HM6' HC6 HB6 HM6
      obtain ⟨ok, hokE⟩ : ∃ ok, okM bb i = ok := ⟨_, rfl⟩
      obtain ⟨M, hME⟩ : ∃ M, parseM bb = M := ⟨_, rfl⟩
      have hof1 := HOF.out
      have hok1 := HOK.out
      have hb91 := HB9.out
      rw [hokE, hME] at hof1
      rw [hokE, hME] at hok1
      rw [hME] at hb91
      clear HOF HOK HB9
      have HOF := Lib.hid hof1
      have HOK := Lib.hid hok1
      have HB9 := Lib.hid hb91
      have HOKE := Lib.hid hokE
      clear hof1 hok1 hb91 hokE hME
      obtain ⟨e0, e1, e2, e3⟩ := MstAt.of (m := M) HB9.out
      go_frame
      cases hmay : M.may with
      | false =>
        have HOKF := Lib.hid (show ok = false by rw [HOK.out, hmay]; rfl)
        have HMY := Lib.hid hmay
        clear hmay
        go_wp2_with fail
        have hS : (fun W : World => W.cell? ⟨g8, 0, none⟩ = some (.int .i64 M.seq) ∧ W.cell? ⟨g8, 1, none⟩ = some (.int .i64 M.turn) ∧ W.cell? ⟨g8, 2, none⟩ = some (.int .i64 M.oldest) ∧ W.cell? ⟨g8, 3, none⟩ = some (.int .i64 M.mark)) w9.drew := ⟨e0, e1, e2, e3⟩
        refine wp_region_held (S := (fun W : World => W.cell? ⟨g8, 0, none⟩ = some (.int .i64 M.seq) ∧ W.cell? ⟨g8, 1, none⟩ = some (.int .i64 M.turn) ∧ W.cell? ⟨g8, 2, none⟩ = some (.int .i64 M.oldest) ∧ W.cell? ⟨g8, 3, none⟩ = some (.int .i64 M.mark))) (by kernel_rfl) ?_
        show wpAnyH _ _ _ _ _ 18 _ _ w9.drew
        refine wpAnyH_take (i := 0) (oi := ⟨some 41, _, _, _, _, _⟩) (v := .agg #[.int .i64 M.seq, .int .i64 M.turn, .int .i64 M.oldest, .int .i64 M.mark]) rfl (by kernel_rfl) (by kernel_rfl) (by kernel_rfl) (fun _ _ _ h => h) (.inl ⟨by kernel_rfl, fun W hW => by obtain ⟨h0, h1, h2, h3⟩ := hW; go_simp⟩) hS ?_
        go_frame
        refine wpAnyH_ready (rs := [1]) (by kernel_rfl) (by simp) ?_
        refine AllReadyH.cons (o := ⟨some 42, .call _, _, _, _, none⟩) rfl (fun K hK => ?_) AllReadyH.nil
        rw [if_pos (by rfl)]
        go_simp
        refine (show Calls Try.prog 49 #[.agg #[.int .i64 M.seq, .int .i64 M.turn, .int .i64 M.oldest, .int .i64 M.mark]] _ _ from may_ref M _).mono ?_
        rintro e w10 ⟨rfl, hm10⟩
        rw [HMY.out]
        have hS10 := MstAt.of (m := M) (hm10.get HB9.out (fun e => e))
        refine hK.out _ _ hS10 (fun hS => ?_)
        clear hK K
        (try go_frame)
        refine wpAnyH_take (i := 2) (oi := ⟨some 43, _, _, _, _, _⟩) (v := .bool true) rfl (by kernel_rfl) (by kernel_rfl) (by kernel_rfl) (fun _ _ _ h => h) (.inl ⟨by kernel_rfl, fun W hW => by go_simp⟩) hS ?_
        go_frame
        refine wpAnyH_take (i := 3) (oi := ⟨some 44, _, _, _, _, _⟩) (v := .bool true) rfl (by kernel_rfl) (by kernel_rfl) (by kernel_rfl) (fun _ _ _ h => h) (.inl ⟨by kernel_rfl, fun W hW => by go_simp⟩) hS ?_
        go_frame
        refine wpAnyH_take (i := 4) (oi := ⟨some 45, _, _, _, _, _⟩) (v := undef) rfl (by kernel_rfl) (by kernel_rfl) (by kernel_rfl) (fun _ _ _ h => h) (.inr ⟨by kernel_rfl, rfl⟩) hS ?_
        go_frame
        refine wpAnyH_take (i := 5) (oi := ⟨some 46, _, _, _, _, _⟩) (v := undef) rfl (by kernel_rfl) (by kernel_rfl) (by kernel_rfl) (fun _ _ _ h => h) (.inr ⟨by kernel_rfl, rfl⟩) hS ?_
        go_frame
        refine wpAnyH_take (i := 6) (oi := ⟨some 47, _, _, _, _, _⟩) (v := undef) rfl (by kernel_rfl) (by kernel_rfl) (by kernel_rfl) (fun _ _ _ h => h) (.inr ⟨by kernel_rfl, rfl⟩) hS ?_
        go_frame
        refine wpAnyH_take (i := 7) (oi := ⟨some 48, _, _, _, _, _⟩) (v := undef) rfl (by kernel_rfl) (by kernel_rfl) (by kernel_rfl) (fun _ _ _ h => h) (.inr ⟨by kernel_rfl, rfl⟩) hS ?_
        go_frame
        refine wpAnyH_take (i := 8) (oi := ⟨some 49, _, _, _, _, _⟩) (v := undef) rfl (by kernel_rfl) (by kernel_rfl) (by kernel_rfl) (fun _ _ _ h => h) (.inr ⟨by kernel_rfl, rfl⟩) hS ?_
        go_frame
        refine wpAnyH_take (i := 9) (oi := ⟨some 50, _, _, _, _, _⟩) (v := .bool true) rfl (by kernel_rfl) (by kernel_rfl) (by kernel_rfl) (fun _ _ _ h => h) (.inl ⟨by kernel_rfl, fun W hW => by go_simp⟩) hS ?_
        go_frame
        refine wpAnyH_take (i := 10) (oi := ⟨some 51, _, _, _, _, _⟩) (v := .bool true) rfl (by kernel_rfl) (by kernel_rfl) (by kernel_rfl) (fun _ _ _ h => h) (.inl ⟨by kernel_rfl, fun W hW => by go_simp⟩) hS ?_
        go_frame
        refine wpAnyH_take (i := 11) (oi := ⟨some 52, _, _, _, _, _⟩) (v := undef) rfl (by kernel_rfl) (by kernel_rfl) (by kernel_rfl) (fun _ _ _ h => h) (.inr ⟨by kernel_rfl, rfl⟩) hS ?_
        go_frame
        refine wpAnyH_take (i := 12) (oi := ⟨some 53, _, _, _, _, _⟩) (v := undef) rfl (by kernel_rfl) (by kernel_rfl) (by kernel_rfl) (fun _ _ _ h => h) (.inr ⟨by kernel_rfl, rfl⟩) hS ?_
        go_frame
        refine wpAnyH_take (i := 13) (oi := ⟨some 54, _, _, _, _, _⟩) (v := undef) rfl (by kernel_rfl) (by kernel_rfl) (by kernel_rfl) (fun _ _ _ h => h) (.inr ⟨by kernel_rfl, rfl⟩) hS ?_
        go_frame
        refine wpAnyH_take (i := 14) (oi := ⟨some 55, _, _, _, _, _⟩) (v := undef) rfl (by kernel_rfl) (by kernel_rfl) (by kernel_rfl) (fun _ _ _ h => h) (.inr ⟨by kernel_rfl, rfl⟩) hS ?_
        go_frame
        refine wpAnyH_take (i := 15) (oi := ⟨some 56, _, _, _, _, _⟩) (v := undef) rfl (by kernel_rfl) (by kernel_rfl) (by kernel_rfl) (fun _ _ _ h => h) (.inr ⟨by kernel_rfl, rfl⟩) hS ?_
        go_frame
        refine wpAnyH_take (i := 16) (oi := ⟨some 57, _, _, _, _, _⟩) (v := undef) rfl (by kernel_rfl) (by kernel_rfl) (by kernel_rfl) (fun _ _ _ h => h) (.inr ⟨by kernel_rfl, rfl⟩) hS ?_
        go_frame
        refine wpAnyH_take (i := 17) (oi := ⟨some 58, _, _, _, _, _⟩) (v := .bool true) rfl (by kernel_rfl) (by kernel_rfl) (by kernel_rfl) (fun _ _ _ h => h) (.inl ⟨by kernel_rfl, fun W hW => by go_simp⟩) hS ?_
        go_frame
        refine wpAnyH_done (by kernel_rfl) ?_ 0
        have HM10 := Lib.hid (HM9.out.trans' hm10.of_drew)
        have HC10 := Lib.hid (hm10.get HC9.out (fun e => e))
        clear hm10 hS hS10 e0 e1 e2 e3
        go_wp2_with (with_reducible refine at_ (o := ⟨some 59, _, _, _, _, _⟩) ?_)
        refine un (wpList_val (s := Instr.build 64 #[]) rfl (by simp [execOp]) (run_buildR _) ?_)
        go_frame
        go_wp2_with (with_reducible refine at_ (o := ⟨none, .store _ _ _, _, _, _, _⟩) ?_)
        refine un (wpList_store rfl 64 _ _ rfl g4 rfl [.int .i64 0, .int .i64 0, .int .i64 0, .int .i64 0] rfl _ _ HC10.out (mCells_size zeroM) (by rw [rmst_size]; rfl) (mCells_one zeroM) ?_)
        intro w11 hb11 hm11
        have HB11 := Lib.hid hb11
        have HM11 := Lib.hid (show Mod none_ w w11 from HM10.out.trans hm11 (fun r e hr => by have := HG6.out.2.1; omega))
        clear hb11 hm11
        go_frame
        go_wp2_with fail
        (try simp only [Exit.inBlock, Exit.then])
        refine bodyPost_ret (results_ct rfl _ _ g4 _ _ _ rfl HB11.out Try.underlying64 rfl (by rw [rmst_size]; rfl)) rfl ?_
        refine ⟨?_, HM11.out⟩
        rw [HOF.out, HOKE.out, HOKF.out]
        rfl
      | true =>
        have HMY := Lib.hid hmay
        have hsq := Mst.may_seq hmay
        clear hmay
        cases hpar : (M.seq % 2 == (i : Int)) with
        | false =>
          have HOKF := Lib.hid (show ok = false by rw [HOK.out, HMY.out, hpar]; rfl)
          have dp : (M.seq % 2 != (i : Int)) = true := by rw [bne, hpar]; rfl
          have htm : M.seq.tmod 2 = M.seq % 2 := Int.tmod_eq_emod_of_nonneg (by omega)
          clear hpar
          go_wp2_with fail
          have hS : (fun W : World => W.cell? ⟨g8, 0, none⟩ = some (.int .i64 M.seq) ∧ W.cell? ⟨g8, 1, none⟩ = some (.int .i64 M.turn) ∧ W.cell? ⟨g8, 2, none⟩ = some (.int .i64 M.oldest) ∧ W.cell? ⟨g8, 3, none⟩ = some (.int .i64 M.mark)) w9.drew := ⟨e0, e1, e2, e3⟩
          refine wp_region_held (S := (fun W : World => W.cell? ⟨g8, 0, none⟩ = some (.int .i64 M.seq) ∧ W.cell? ⟨g8, 1, none⟩ = some (.int .i64 M.turn) ∧ W.cell? ⟨g8, 2, none⟩ = some (.int .i64 M.oldest) ∧ W.cell? ⟨g8, 3, none⟩ = some (.int .i64 M.mark))) (by kernel_rfl) ?_
          show wpAnyH _ _ _ _ _ 18 _ _ w9.drew
          refine wpAnyH_take (i := 0) (oi := ⟨some 41, _, _, _, _, _⟩) (v := .agg #[.int .i64 M.seq, .int .i64 M.turn, .int .i64 M.oldest, .int .i64 M.mark]) rfl (by kernel_rfl) (by kernel_rfl) (by kernel_rfl) (fun _ _ _ h => h) (.inl ⟨by kernel_rfl, fun W hW => by obtain ⟨h0, h1, h2, h3⟩ := hW; go_simp⟩) hS ?_
          go_frame
          refine wpAnyH_ready (rs := [1]) (by kernel_rfl) (by simp) ?_
          refine AllReadyH.cons (o := ⟨some 42, .call _, _, _, _, none⟩) rfl (fun K hK => ?_) AllReadyH.nil
          rw [if_pos (by rfl)]
          go_simp
          refine (show Calls Try.prog 49 #[.agg #[.int .i64 M.seq, .int .i64 M.turn, .int .i64 M.oldest, .int .i64 M.mark]] _ _ from may_ref M _).mono ?_
          rintro e w10 ⟨rfl, hm10⟩
          rw [HMY.out]
          have hS10 := MstAt.of (m := M) (hm10.get HB9.out (fun e => e))
          refine hK.out _ _ hS10 (fun hS => ?_)
          clear hK K
          (try go_frame)
          refine wpAnyH_take (i := 2) (oi := ⟨some 43, _, _, _, _, _⟩) (v := .bool false) rfl (by kernel_rfl) (by kernel_rfl) (by kernel_rfl) (fun _ _ _ h => h) (.inl ⟨by kernel_rfl, fun W hW => by go_simp⟩) hS ?_
          go_frame
          refine wpAnyH_take (i := 3) (oi := ⟨some 44, _, _, _, _, _⟩) (v := .bool false) rfl (by kernel_rfl) (by kernel_rfl) (by kernel_rfl) (fun _ _ _ h => h) (.inl ⟨by kernel_rfl, fun W hW => by go_simp⟩) hS ?_
          go_frame
          refine wpAnyH_take (i := 4) (oi := ⟨some 45, _, _, _, _, _⟩) (v := .pointer (some ⟨g8, 0, none⟩)) rfl (by kernel_rfl) (by kernel_rfl) (by kernel_rfl) (fun _ _ _ h => h) (.inl ⟨by kernel_rfl, fun W hW => by go_simp⟩) hS ?_
          go_frame
          refine wpAnyH_take (i := 5) (oi := ⟨some 46, _, _, _, _, _⟩) (v := .int .i64 M.seq) rfl (by kernel_rfl) (by kernel_rfl) (by kernel_rfl) (fun _ _ _ h => h) (.inl ⟨by kernel_rfl, fun W hW => by obtain ⟨h0, _⟩ := hW; go_simp⟩) hS ?_
          go_frame
          refine wpAnyH_take (i := 6) (oi := ⟨some 47, _, _, _, _, _⟩) (v := .int .i64 (M.seq % 2)) rfl (by kernel_rfl) (by kernel_rfl) (by kernel_rfl) (fun _ _ _ h => h) (.inl ⟨by kernel_rfl, fun W hW => by go_simp⟩) hS ?_
          go_frame
          refine wpAnyH_take (i := 7) (oi := ⟨some 48, _, _, _, _, _⟩) (v := .int .i64 (i : Int)) rfl (by kernel_rfl) (by kernel_rfl) (by kernel_rfl) (fun _ _ _ h => h) (.inl ⟨by kernel_rfl, fun W hW => by go_simp⟩) hS ?_
          go_frame
          refine wpAnyH_take (i := 8) (oi := ⟨some 49, _, _, _, _, _⟩) (v := .bool true) rfl (by kernel_rfl) (by kernel_rfl) (by kernel_rfl) (fun _ _ _ h => h) (.inl ⟨by kernel_rfl, fun W hW => by go_simp⟩) hS ?_
          go_frame
          refine wpAnyH_take (i := 9) (oi := ⟨some 50, _, _, _, _, _⟩) (v := .bool true) rfl (by kernel_rfl) (by kernel_rfl) (by kernel_rfl) (fun _ _ _ h => h) (.inl ⟨by kernel_rfl, fun W hW => by go_simp⟩) hS ?_
          go_frame
          refine wpAnyH_take (i := 10) (oi := ⟨some 51, _, _, _, _, _⟩) (v := .bool true) rfl (by kernel_rfl) (by kernel_rfl) (by kernel_rfl) (fun _ _ _ h => h) (.inl ⟨by kernel_rfl, fun W hW => by go_simp⟩) hS ?_
          go_frame
          refine wpAnyH_take (i := 11) (oi := ⟨some 52, _, _, _, _, _⟩) (v := undef) rfl (by kernel_rfl) (by kernel_rfl) (by kernel_rfl) (fun _ _ _ h => h) (.inr ⟨by kernel_rfl, rfl⟩) hS ?_
          go_frame
          refine wpAnyH_take (i := 12) (oi := ⟨some 53, _, _, _, _, _⟩) (v := undef) rfl (by kernel_rfl) (by kernel_rfl) (by kernel_rfl) (fun _ _ _ h => h) (.inr ⟨by kernel_rfl, rfl⟩) hS ?_
          go_frame
          refine wpAnyH_take (i := 13) (oi := ⟨some 54, _, _, _, _, _⟩) (v := undef) rfl (by kernel_rfl) (by kernel_rfl) (by kernel_rfl) (fun _ _ _ h => h) (.inr ⟨by kernel_rfl, rfl⟩) hS ?_
          go_frame
          refine wpAnyH_take (i := 14) (oi := ⟨some 55, _, _, _, _, _⟩) (v := undef) rfl (by kernel_rfl) (by kernel_rfl) (by kernel_rfl) (fun _ _ _ h => h) (.inr ⟨by kernel_rfl, rfl⟩) hS ?_
          go_frame
          refine wpAnyH_take (i := 15) (oi := ⟨some 56, _, _, _, _, _⟩) (v := undef) rfl (by kernel_rfl) (by kernel_rfl) (by kernel_rfl) (fun _ _ _ h => h) (.inr ⟨by kernel_rfl, rfl⟩) hS ?_
          go_frame
          refine wpAnyH_take (i := 16) (oi := ⟨some 57, _, _, _, _, _⟩) (v := undef) rfl (by kernel_rfl) (by kernel_rfl) (by kernel_rfl) (fun _ _ _ h => h) (.inr ⟨by kernel_rfl, rfl⟩) hS ?_
          go_frame
          refine wpAnyH_take (i := 17) (oi := ⟨some 58, _, _, _, _, _⟩) (v := .bool true) rfl (by kernel_rfl) (by kernel_rfl) (by kernel_rfl) (fun _ _ _ h => h) (.inl ⟨by kernel_rfl, fun W hW => by go_simp⟩) hS ?_
          go_frame
          refine wpAnyH_done (by kernel_rfl) ?_ 0
          have HM10 := Lib.hid (HM9.out.trans' hm10.of_drew)
          have HC10 := Lib.hid (hm10.get HC9.out (fun e => e))
          clear hm10 hS hS10 e0 e1 e2 e3
          go_wp2_with (with_reducible refine at_ (o := ⟨some 59, _, _, _, _, _⟩) ?_)
          refine un (wpList_val (s := Instr.build 64 #[]) rfl (by simp [execOp]) (run_buildR _) ?_)
          go_frame
          go_wp2_with (with_reducible refine at_ (o := ⟨none, .store _ _ _, _, _, _, _⟩) ?_)
          refine un (wpList_store rfl 64 _ _ rfl g4 rfl [.int .i64 0, .int .i64 0, .int .i64 0, .int .i64 0] rfl _ _ HC10.out (mCells_size zeroM) (by rw [rmst_size]; rfl) (mCells_one zeroM) ?_)
          intro w11 hb11 hm11
          have HB11 := Lib.hid hb11
          have HM11 := Lib.hid (show Mod none_ w w11 from HM10.out.trans hm11 (fun r e hr => by have := HG6.out.2.1; omega))
          clear hb11 hm11
          go_frame
          go_wp2_with fail
          (try simp only [Exit.inBlock, Exit.then])
          refine bodyPost_ret (results_ct rfl _ _ g4 _ _ _ rfl HB11.out Try.underlying64 rfl (by rw [rmst_size]; rfl)) rfl ?_
          refine ⟨?_, HM11.out⟩
          rw [HOF.out, HOKE.out, HOKF.out]
          rfl
        | true =>
          have HPAR := Lib.hid hpar
          have dp : (M.seq % 2 != (i : Int)) = false := by rw [bne, hpar]; rfl
          have htm : M.seq.tmod 2 = M.seq % 2 := Int.tmod_eq_emod_of_nonneg (by omega)
          clear hpar
          have hxw : ∀ W : World, Mod none_ w W → (convert 51 9 (.slice (some ⟨b8, o8, none⟩) 512 c8)).run Try.prog W = .ok (.string ⟨bb.toArray⟩) W := fun W hW => by
            have hr : Rd W (fun _ => True) 1 (.slice (some ⟨b8, o8, none⟩) 512 c8) bb.length (u8s bb) := ⟨_, _, by rw [HLen.out], by rw [HLen.out]; exact HC8.out, by rw [length_u8s, Nat.mul_one], fun _ => ⟨b8, o8, rfl, trivial, Nat.lt_of_lt_of_le HB8.out hW.size, fun j u hu => (hW.cell (p := ⟨b8, o8 + j, none⟩) HB8.out (fun e => e)).trans (HQ8.out j u hu)⟩⟩
            exact conv_any hr (by rw [HLen.out]; omega)
          have HXW := Lib.hid hxw
          obtain ⟨sec, hsec⟩ : ∃ sec, secM M = sec := ⟨_, rfl⟩
          have hsl : sec.length = 512 := by rw [← hsec]; exact secM_length M
          have HSL := Lib.hid hsl
          have HSEC := Lib.hid hsec
          have hok2 := HOK.out
          rw [hsec] at hok2
          clear HOK
          have HOK := Lib.hid hok2
          have hS9 : ∀ W : World, Mod none_ w9 W → (W.cell? ⟨g8, 0, none⟩ = some (.int .i64 M.seq) ∧ W.cell? ⟨g8, 1, none⟩ = some (.int .i64 M.turn) ∧ W.cell? ⟨g8, 2, none⟩ = some (.int .i64 M.oldest) ∧ W.cell? ⟨g8, 3, none⟩ = some (.int .i64 M.mark)) ∧ (convert 51 9 (.slice (some ⟨b8, o8, none⟩) 512 c8)).run Try.prog W = .ok (.string ⟨bb.toArray⟩) W :=
            fun W hW => ⟨MstAt.of (m := M) (hW.get HB9.out (fun e => e)), HXW.out W (HM9.out.trans' hW)⟩
          have HS9 := Lib.hid hS9
          clear hxw hsec hsl hok2 hS9
          go_wp2_with fail
          have hS := HS9.out _ ((Mod.refl _ w9).drew)
          refine wp_region_held (S := (fun W : World => (W.cell? ⟨g8, 0, none⟩ = some (.int .i64 M.seq) ∧ W.cell? ⟨g8, 1, none⟩ = some (.int .i64 M.turn) ∧ W.cell? ⟨g8, 2, none⟩ = some (.int .i64 M.oldest) ∧ W.cell? ⟨g8, 3, none⟩ = some (.int .i64 M.mark)) ∧ (convert 51 9 (.slice (some ⟨b8, o8, none⟩) 512 c8)).run Try.prog W = .ok (.string ⟨bb.toArray⟩) W)) (by kernel_rfl) ?_
          show wpAnyH _ _ _ _ _ 18 _ _ w9.drew
          refine wpAnyH_take (i := 0) (oi := ⟨some 41, _, _, _, _, _⟩) (v := .agg #[.int .i64 M.seq, .int .i64 M.turn, .int .i64 M.oldest, .int .i64 M.mark]) rfl (by kernel_rfl) (by kernel_rfl) (by kernel_rfl) (fun _ _ _ h => h) (.inl ⟨by kernel_rfl, fun W hW => by obtain ⟨⟨h0, h1, h2, h3⟩, _⟩ := hW; go_simp⟩) hS ?_
          go_frame
          refine wpAnyH_ready (rs := [1]) (by kernel_rfl) (by simp) ?_
          refine AllReadyH.cons (o := ⟨some 42, _, _, _, _, _⟩) rfl (fun K hK => ?_) AllReadyH.nil
          rw [if_pos (by rfl)]
          go_simp
          refine (show Calls Try.prog 49 #[.agg #[.int .i64 M.seq, .int .i64 M.turn, .int .i64 M.oldest, .int .i64 M.mark]] _ _ from may_ref M _).mono ?_
          rintro e w10 ⟨rfl, hm10⟩
          rw [HMY.out]
          have hS10 := HS9.out w10 hm10.of_drew
          refine hK.out _ _ hS10 (fun hS => ?_)
          clear hK K
          (try go_frame)
          refine wpAnyH_take (i := 2) (oi := ⟨some 43, _, _, _, _, _⟩) (v := .bool false) rfl (by kernel_rfl) (by kernel_rfl) (by kernel_rfl) (fun _ _ _ h => h) (.inl ⟨by kernel_rfl, fun W hW => by go_simp⟩) hS ?_
          go_frame
          refine wpAnyH_take (i := 3) (oi := ⟨some 44, _, _, _, _, _⟩) (v := .bool false) rfl (by kernel_rfl) (by kernel_rfl) (by kernel_rfl) (fun _ _ _ h => h) (.inl ⟨by kernel_rfl, fun W hW => by go_simp⟩) hS ?_
          go_frame
          refine wpAnyH_take (i := 4) (oi := ⟨some 45, _, _, _, _, _⟩) (v := .pointer (some ⟨g8, 0, none⟩)) rfl (by kernel_rfl) (by kernel_rfl) (by kernel_rfl) (fun _ _ _ h => h) (.inl ⟨by kernel_rfl, fun W hW => by go_simp⟩) hS ?_
          go_frame
          refine wpAnyH_take (i := 5) (oi := ⟨some 46, _, _, _, _, _⟩) (v := .int .i64 M.seq) rfl (by kernel_rfl) (by kernel_rfl) (by kernel_rfl) (fun _ _ _ h => h) (.inl ⟨by kernel_rfl, fun W hW => by obtain ⟨⟨h0, _⟩, _⟩ := hW; go_simp⟩) hS ?_
          go_frame
          refine wpAnyH_take (i := 6) (oi := ⟨some 47, _, _, _, _, _⟩) (v := .int .i64 (M.seq % 2)) rfl (by kernel_rfl) (by kernel_rfl) (by kernel_rfl) (fun _ _ _ h => h) (.inl ⟨by kernel_rfl, fun W hW => by go_simp⟩) hS ?_
          go_frame
          refine wpAnyH_take (i := 7) (oi := ⟨some 48, _, _, _, _, _⟩) (v := .int .i64 (i : Int)) rfl (by kernel_rfl) (by kernel_rfl) (by kernel_rfl) (fun _ _ _ h => h) (.inl ⟨by kernel_rfl, fun W hW => by go_simp⟩) hS ?_
          go_frame
          refine wpAnyH_take (i := 8) (oi := ⟨some 49, _, _, _, _, _⟩) (v := .bool false) rfl (by kernel_rfl) (by kernel_rfl) (by kernel_rfl) (fun _ _ _ h => h) (.inl ⟨by kernel_rfl, fun W hW => by go_simp⟩) hS ?_
          go_frame
          refine wpAnyH_take (i := 9) (oi := ⟨some 50, _, _, _, _, _⟩) (v := .bool false) rfl (by kernel_rfl) (by kernel_rfl) (by kernel_rfl) (fun _ _ _ h => h) (.inl ⟨by kernel_rfl, fun W hW => by go_simp⟩) hS ?_
          go_frame
          refine wpAnyH_take (i := 10) (oi := ⟨some 51, _, _, _, _, _⟩) (v := .bool false) rfl (by kernel_rfl) (by kernel_rfl) (by kernel_rfl) (fun _ _ _ h => h) (.inl ⟨by kernel_rfl, fun W hW => by go_simp⟩) hS ?_
          go_frame
          refine wpAnyH_take (i := 11) (oi := ⟨some 52, _, _, _, _, _⟩) (v := .agg #[.int .i64 M.seq, .int .i64 M.turn, .int .i64 M.oldest, .int .i64 M.mark]) rfl (by kernel_rfl) (by kernel_rfl) (by kernel_rfl) (fun _ _ _ h => h) (.inl ⟨by kernel_rfl, fun W hW => by obtain ⟨⟨h0, h1, h2, h3⟩, _⟩ := hW; go_simp⟩) hS ?_
          go_frame
          refine wpAnyH_take (i := 14) (oi := ⟨some 55, _, _, _, _, _⟩) (v := .slice (some ⟨b8, o8, none⟩) 512 c8) rfl (by kernel_rfl) (by kernel_rfl) (by kernel_rfl) (fun _ _ _ h => h) (.inl ⟨by kernel_rfl, fun W hW => by go_simp⟩) hS ?_
          go_frame
          refine wpAnyH_take (i := 15) (oi := ⟨some 56, _, _, _, _, _⟩) (v := .string ⟨bb.toArray⟩) rfl (by kernel_rfl) (by kernel_rfl) (by kernel_rfl) (fun _ _ _ h => h) (.inl ⟨by kernel_rfl, fun W hW => by have hc := hW.2; go_simp⟩) hS ?_
          go_frame
          refine wpAnyH_ready (rs := [12]) (by kernel_rfl) (by simp) ?_
          refine AllReadyH.cons (o := ⟨some 53, _, _, _, _, _⟩) rfl (fun K hK => ?_) AllReadyH.nil
          rw [if_pos (by rfl)]
          go_simp
          refine (show Calls Try.prog 27 #[.agg #[.int .i64 M.seq, .int .i64 M.turn, .int .i64 M.oldest, .int .i64 M.mark]] _ _ from rbytes_any M _).mono ?_
          rintro e w11 ⟨v11, rfl, ho11, hm11⟩
          rw [HSEC.out] at ho11
          have hS11 := HS9.out w11 (hm10.of_drew.trans' hm11)
          have hcv1 := conv_any (show Rd w11 (Fr _) 1 v11 sec.length (u8s sec) by rw [HSL.out]; exact ho11.rd) (by rw [HSL.out]; omega)
          refine hK.out _ _ hS11 (fun hS => ?_)
          clear hK K
          (try go_frame)
          refine wpAnyH_ready (rs := [13]) (by kernel_rfl) (by simp) ?_
          refine AllReadyH.cons (o := ⟨some 54, _, _, _, _, _⟩) rfl (fun K hK => ?_) AllReadyH.nil
          rw [if_pos (by rfl)]
          go_simp
          refine hK.out _ _ hS11 (fun hS => ?_)
          clear hK K
          (try go_frame)
          refine wpAnyH_take (i := 16) (oi := ⟨some 57, _, _, _, _, _⟩) (v := .bool (!(sec == bb))) rfl (by kernel_rfl) (by kernel_rfl) (by kernel_rfl) (fun _ _ _ h => h) (.inl ⟨by kernel_rfl, fun W hW => by go_simp⟩) hS ?_
          go_frame
          refine wpAnyH_take (i := 17) (oi := ⟨some 58, _, _, _, _, _⟩) (v := .bool (!(sec == bb))) rfl (by kernel_rfl) (by kernel_rfl) (by kernel_rfl) (fun _ _ _ h => h) (.inl ⟨by kernel_rfl, fun W hW => by go_simp⟩) hS ?_
          go_frame
          refine wpAnyH_done (by kernel_rfl) ?_ 0
          have HM11 := Lib.hid (HM9.out.trans' (hm10.of_drew.trans' hm11))
          have HC11 := Lib.hid (hm11.get (hm10.get HC9.out (fun e => e)) (fun e => e))
          have HB11 := Lib.hid (hm11.get (hm10.get HB9.out (fun e => e)) (fun e => e))
          clear hm10 hm11 ho11 hS hS10 hS11 hcv1 e0 e1 e2 e3
          have hdq : decide (sec = bb) = (sec == bb) := by rw [Bool.eq_iff_iff]; simp
          obtain ⟨q, hq⟩ : ∃ q, (sec == bb) = q := ⟨_, rfl⟩
          rw [hq] at hdq ⊢
          have HDQ := Lib.hid hdq
          clear hdq hq
          generalize (Value.string ⟨sec.toArray⟩) = sv1
          generalize (Value.string ⟨bb.toArray⟩) = sv2
          cases q with
          | true =>
            have HOKT := Lib.hid (show ok = true by rw [HOK.out, HMY.out, HPAR.out, HDQ.out]; rfl)
            clear HDQ HSEC HSL HXW HQ8 HPAR dp htm hsq
            simp only [Bool.not_true]
            go_wp2_with (with_reducible refine at_ (o := ⟨some 60, _, _, _, _, _⟩) ?_)
            refine un (wpList_load rfl 64 _ rfl g8 0 rfl [.int .i64 M.seq, .int .i64 M.turn, .int .i64 M.oldest, .int .i64 M.mark] _ Try.underlying64 rfl (block_cells HB11.out) (by rw [rmst_size]; rfl) ?_)
            go_frame
            go_wp2_with (with_reducible refine at_ (o := ⟨none, .store _ _ _, _, _, _, _⟩) ?_)
            refine un (wpList_store rfl 64 _ _ rfl g4 rfl [.int .i64 M.seq, .int .i64 M.turn, .int .i64 M.oldest, .int .i64 M.mark] rfl _ _ HC11.out (mCells_size zeroM) (by rw [rmst_size]; rfl) (mCells_one M) ?_)
            intro w12 hb12 hm12
            have HB12 := Lib.hid hb12
            have HM12 := Lib.hid (show Mod none_ w w12 from HM11.out.trans hm12 (fun r e hr => by have := HG6.out.2.1; omega))
            clear hb12 hm12
            go_frame
            go_wp2_with fail
            (try simp only [Exit.inBlock, Exit.then])
            refine bodyPost_ret (results_ct rfl _ _ g4 _ _ _ rfl HB12.out Try.underlying64 rfl (by rw [rmst_size]; rfl)) rfl ?_
            refine ⟨?_, HM12.out⟩
            rw [HOF.out, HOKE.out, HOKT.out]
            rfl
          | false =>
            have HOKF := Lib.hid (show ok = false by rw [HOK.out, HMY.out, HPAR.out, HDQ.out]; rfl)
            clear HDQ HSEC HSL HXW HQ8 HPAR dp htm hsq
            simp only [Bool.not_false]
            go_wp2_with (with_reducible refine at_ (o := ⟨some 59, _, _, _, _, _⟩) ?_)
            refine un (wpList_val (s := Instr.build 64 #[]) rfl (by simp [execOp]) (run_buildR _) ?_)
            go_frame
            go_wp2_with (with_reducible refine at_ (o := ⟨none, .store _ _ _, _, _, _, _⟩) ?_)
            refine un (wpList_store rfl 64 _ _ rfl g4 rfl [.int .i64 0, .int .i64 0, .int .i64 0, .int .i64 0] rfl _ _ HC11.out (mCells_size zeroM) (by rw [rmst_size]; rfl) (mCells_one zeroM) ?_)
            intro w12 hb12 hm12
            have HB12 := Lib.hid hb12
            have HM12 := Lib.hid (show Mod none_ w w12 from HM11.out.trans hm12 (fun r e hr => by have := HG6.out.2.1; omega))
            clear hb12 hm12
            go_frame
            go_wp2_with fail
            (try simp only [Exit.inBlock, Exit.then])
            refine bodyPost_ret (results_ct rfl _ _ g4 _ _ _ rfl HB12.out Try.underlying64 rfl (by rw [rmst_size]; rfl)) rfl ?_
            refine ⟨?_, HM12.out⟩
            rw [HOF.out, HOKE.out, HOKF.out]
            rfl

end Go.Proofs.Ythkbnhoebijdoaa
