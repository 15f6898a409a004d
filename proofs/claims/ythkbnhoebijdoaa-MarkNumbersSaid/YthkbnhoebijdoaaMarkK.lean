/-
  MarkKept: the plain law: a master's bytes are read as it; what is written one behind the other is kept over crashes (no program's step in sight).
-/
import Derived.Test.YthkbnhoebijdoaaMarkF
namespace Go.Proofs.Ythkbnhoebijdoaa
open Go Go.RowKit Go.SM

theorem step8_is {a : Int} (c : UInt8) (h0 : 0 ≤ a) (h1 : a < 36028797018963968) : step8 a c = a * 256 + (c.toNat : Int) := by
  obtain ⟨n, rfl⟩ : ∃ n : Nat, a = n := ⟨a.toNat, by omega⟩
  have hc : c.toNat < 256 := c.toNat_lt
  unfold step8
  have e1 : wrap64 ((n : Int) * 256) = ((n * 256 : Nat) : Int) := by unfold wrap64; omega
  have e2 : wrap64 (c.toNat : Int) = ((c.toNat : Nat) : Int) := by unfold wrap64; omega
  rw [e1, e2]
  have key : (BitVec.ofInt 64 ((n * 256 : Nat) : Int) ||| BitVec.ofInt 64 ((c.toNat : Nat) : Int)).toNat = n * 256 + c.toNat := by
    rw [BitVec.toNat_or, BitVec.toNat_ofInt, BitVec.toNat_ofInt]
    have a1 : (((n * 256 : Nat) : Int) % ((2 ^ 64 : Nat) : Int)).toNat = n * 256 := by omega
    have a2 : (((c.toNat : Nat) : Int) % ((2 ^ 64 : Nat) : Int)).toNat = c.toNat := by omega
    rw [a1, a2]
    have h := Nat.shiftLeft_add_eq_or_of_lt (b := c.toNat) (i := 8) (by omega) n
    rw [Nat.shiftLeft_eq] at h
    exact h.symm
  show IntKind.i64.wrap ((BitVec.ofInt 64 ((n * 256 : Nat) : Int) ||| BitVec.ofInt 64 ((c.toNat : Nat) : Int)).toNat : Nat) = _
  rw [key, IntKind.wrap_i64]
  omega

theorem byteAt_nat (n : Int) (k : Nat) : ((byteAt n k).toNat : Int) = n / 2 ^ k % 256 := by
  have h := byteAt_cell n k
  simpa [SM.u8] using h

def p8 (n : Int) : Nat → Int
  | 0 => n
  | j + 1 => p8 n j / 256
theorem p8_lt {n : Int} (h0 : 0 ≤ n) (h1 : n < 9223372036854775808) : p8 n 0 < 9223372036854775808 ∧ p8 n 1 < 36028797018963968 ∧ p8 n 2 < 36028797018963968 ∧ p8 n 3 < 36028797018963968 ∧ p8 n 4 < 36028797018963968 ∧ p8 n 5 < 36028797018963968 ∧ p8 n 6 < 36028797018963968 ∧ p8 n 7 < 36028797018963968 ∧ p8 n 8 = 0 := by
  simp only [p8]
  omega
theorem p8_nn {n : Int} (h0 : 0 ≤ n) : ∀ j, 0 ≤ p8 n j
  | 0 => h0
  | j + 1 => by have := p8_nn h0 j; simp only [p8]; omega
theorem step8_p {n : Int} (h0 : 0 ≤ n) (j : Nat) (h1 : p8 n (j + 1) < 36028797018963968) (c : UInt8) (hc : (c.toNat : Int) = p8 n j % 256) : step8 (p8 n (j + 1)) c = p8 n j := by
  rw [step8_is c (p8_nn h0 _) h1, hc]
  simp only [p8]
  omega
theorem byte_p (n : Int) : ((byteAt n 56).toNat : Int) = p8 n 7 % 256 ∧ ((byteAt n 48).toNat : Int) = p8 n 6 % 256 ∧ ((byteAt n 40).toNat : Int) = p8 n 5 % 256 ∧ ((byteAt n 32).toNat : Int) = p8 n 4 % 256 ∧ ((byteAt n 24).toNat : Int) = p8 n 3 % 256 ∧ ((byteAt n 16).toNat : Int) = p8 n 2 % 256 ∧ ((byteAt n 8).toNat : Int) = p8 n 1 % 256 ∧ ((byteAt n 0).toNat : Int) = p8 n 0 % 256 := by
  simp only [byteAt_nat, p8, Int.reducePow]
  refine ⟨?_, ?_, ?_, ?_, ?_, ?_, ?_, ?_⟩ <;> first | trivial | omega

theorem be8_fold {n : Int} (h0 : 0 ≤ n) (h1 : n < 9223372036854775808) : (be8 n).foldl step8 0 = n := by
  obtain ⟨a0, a1, a2, a3, a4, a5, a6, a7, a8⟩ := p8_lt h0 h1
  obtain ⟨b7, b6, b5, b4, b3, b2, b1, b0⟩ := byte_p n
  unfold be8
  generalize byteAt n 56 = c7 at *
  generalize byteAt n 48 = c6 at *
  generalize byteAt n 40 = c5 at *
  generalize byteAt n 32 = c4 at *
  generalize byteAt n 24 = c3 at *
  generalize byteAt n 16 = c2 at *
  generalize byteAt n 8 = c1 at *
  generalize byteAt n 0 = c0 at *
  rw [List.foldl_cons, List.foldl_cons, List.foldl_cons, List.foldl_cons, List.foldl_cons, List.foldl_cons, List.foldl_cons, List.foldl_cons, List.foldl_nil]
  rw [← a8, step8_p h0 7 (by rw [a8]; omega) c7 b7, step8_p h0 6 a7 c6 b6, step8_p h0 5 a6 c5 b5, step8_p h0 4 a5 c4 b4, step8_p h0 3 a4 c3 b3, step8_p h0 2 a3 c2 b2, step8_p h0 1 a2 c1 b1, step8_p h0 0 a1 c0 b0]
  rfl

theorem stN_at (l : List UInt8) : ∀ k, k ≤ l.length → k ≤ 32 → ∀ i, i < 4 → (stN l k).getD i 0 = (((l.drop (8 * i)).take 8).take (k - 8 * i)).foldl step8 0
  | 0, _, _, i, hi => by
    have : i = 0 ∨ i = 1 ∨ i = 2 ∨ i = 3 := by omega
    rcases this with rfl | rfl | rfl | rfl <;> simp [stN]
  | k + 1, hk, h32, i, hi => by
    have ih := stN_at l k (by omega) (by omega)
    have hlen := stN_length l k
    rw [stN_succ l k (k / 8) rfl]
    have hq : k / 8 < 4 := by omega
    by_cases e : i = k / 8
    · have e1 : ((stN l k).set (k / 8) (step8 ((stN l k).getD (k / 8) 0) (l.getD k 0))).getD i 0 = step8 ((stN l k).getD (k / 8) 0) (l.getD k 0) := by
        rw [e, List.getD_eq_getElem?_getD, List.getElem?_set_self (by omega)]
        rfl
      rw [e1, ih (k / 8) hq, e]
      have hd : k + 1 - 8 * (k / 8) = (k - 8 * (k / 8)) + 1 := by omega
      have hlt : k - 8 * (k / 8) < ((l.drop (8 * (k / 8))).take 8).length := by simp; omega
      rw [hd, List.take_succ_eq_append_getElem hlt, List.foldl_append]
      have hg : ((l.drop (8 * (k / 8))).take 8)[k - 8 * (k / 8)] = l.getD k 0 := by
        rw [List.getElem_take, List.getElem_drop, List.getD_eq_getElem?_getD, List.getElem?_eq_getElem (by omega), Option.getD_some]
        congr 1
        omega
      rw [hg]
      rfl
    · have e1 : ((stN l k).set (k / 8) (step8 ((stN l k).getD (k / 8) 0) (l.getD k 0))).getD i 0 = (stN l k).getD i 0 := by
        rw [List.getD_eq_getElem?_getD, List.getElem?_set_ne (fun h => e h.symm), ← List.getD_eq_getElem?_getD]
      rw [e1, ih i hi]
      by_cases h : i < k / 8
      · rw [List.take_of_length_le (i := k - 8 * i) (by simp; omega), List.take_of_length_le (i := k + 1 - 8 * i) (by simp; omega)]
      · rw [show k - 8 * i = 0 by omega, show k + 1 - 8 * i = 0 by omega]

theorem stN_all (l : List UInt8) (h : 32 ≤ l.length) (i : Nat) (hi : i < 4) : (stN l 32).getD i 0 = ((l.drop (8 * i)).take 8).foldl step8 0 := by
  rw [stN_at l 32 h (Nat.le_refl _) i hi, List.take_of_length_le (by simp; omega)]

theorem secM_drop (m : Mst) : (secM m).drop 8 = be8 m.seq ++ (be8 m.turn ++ (be8 m.oldest ++ (be8 m.mark ++ List.replicate 472 0))) := rfl

theorem parse_sec {m : Mst} (h : m.may = true) : parseM (secM m) = m := by
  have hm : (1 ≤ m.seq ∧ m.seq ≤ 2305843009213693952) ∧ (1 ≤ m.turn ∧ m.turn ≤ 2147483647) ∧ (1 ≤ m.oldest ∧ m.oldest ≤ 1152921504606846976) ∧ 0 ≤ m.mark ∧ m.mark ≤ 1152921504606846976 := by
    unfold Mst.may at h
    simp only [Bool.and_eq_true, decide_eq_true_eq] at h
    omega
  have hlen : ((secM m).drop 8).length = 504 := by rw [List.length_drop, secM_length]
  rw [parseM_eq, stN_all _ (by omega) 0 (by omega), stN_all _ (by omega) 1 (by omega), stN_all _ (by omega) 2 (by omega), stN_all _ (by omega) 3 (by omega), secM_drop]
  have l8 : ∀ n : Int, (be8 n).length = 8 := be8_length
  have e0 : ((be8 m.seq ++ (be8 m.turn ++ (be8 m.oldest ++ (be8 m.mark ++ List.replicate 472 0)))).drop (8 * 0)).take 8 = be8 m.seq := by rw [Nat.mul_zero, List.drop_zero]; exact List.take_left' (l8 _)
  have e1 : ((be8 m.seq ++ (be8 m.turn ++ (be8 m.oldest ++ (be8 m.mark ++ List.replicate 472 0)))).drop (8 * 1)).take 8 = be8 m.turn := by rw [List.drop_left' (by rw [l8])]; exact List.take_left' (l8 _)
  have e2 : ((be8 m.seq ++ (be8 m.turn ++ (be8 m.oldest ++ (be8 m.mark ++ List.replicate 472 0)))).drop (8 * 2)).take 8 = be8 m.oldest := by
    rw [show 8 * 2 = 8 + 8 from rfl, ← List.drop_drop, List.drop_left' (by rw [l8]), List.drop_left' (by rw [l8])]; exact List.take_left' (l8 _)
  have e3 : ((be8 m.seq ++ (be8 m.turn ++ (be8 m.oldest ++ (be8 m.mark ++ List.replicate 472 0)))).drop (8 * 3)).take 8 = be8 m.mark := by
    rw [show 8 * 3 = 8 + (8 + 8) from rfl, ← List.drop_drop, ← List.drop_drop, List.drop_left' (by rw [l8]), List.drop_left' (by rw [l8]), List.drop_left' (by rw [l8])]; exact List.take_left' (l8 _)
  rw [e0, e1, e2, e3, be8_fold (by omega) (by omega), be8_fold (by omega) (by omega), be8_fold (by omega) (by omega), be8_fold (by omega) (by omega)]

theorem okM_sec {m : Mst} (h : m.may = true) {i : Nat} (hi : m.seq % 2 = i) : okM (secM m) i = true := by
  unfold okM
  rw [parse_sec h, h, hi]
  simp

/-- a disk of 40 sectors whose master is m -/
structure Good (s : DS) (m : Mst) : Prop where
  n : s.n = 40
  d : s.down = false
  o : ∀ k, s.fo k = none
  may : m.may = true
  here : latS s (m.seq % 2) = secM m
  other : ∀ i : Nat, i < 2 → ((i : Int) ≠ m.seq % 2) → okM (latS s i) i = true → (parseM (latS s i)).seq < m.seq

theorem Mst.may_seq {m : Mst} (h : m.may = true) : 1 ≤ m.seq := by
  unfold Mst.may at h
  simp only [Bool.and_eq_true, decide_eq_true_eq] at h
  omega

theorem Good.rd {s : DS} {m : Mst} (h : Good s m) : rdMT s = (0, m) := by
  have hs := Mst.may_seq h.may
  have hup : mayE s 0 = 0 := mayE_up h.d ⟨by omega, by rw [h.n]; omega⟩
  have h2 : m.seq % 2 = 0 ∨ m.seq % 2 = 1 := by omega
  have hb : bestS s 2 = m := by
    rcases h2 with e | e
    · have l0 : latS s ((0 : Nat) : Int) = secM m := by rw [← h.here, e]; rfl
      have b1 : bestS s 1 = m := by
        rw [bestS_succ s 0, l0, okM_sec h.may (by rw [e]; rfl), parse_sec h.may, if_pos]
        show (true && decide ((0 : Int) < m.seq)) = true
        simp; omega
      rw [bestS_succ s 1, b1]
      by_cases hk : okM (latS s ((1 : Nat) : Int)) 1 = true
      · have := h.other 1 (by omega) (by rw [e]; simp) hk
        rw [hk, Bool.true_and, if_neg (by rw [decide_eq_true_eq]; omega)]
      · rw [if_neg (by simp only [Bool.not_eq_true] at hk; rw [hk]; simp)]
    · have l1 : latS s ((1 : Nat) : Int) = secM m := by rw [← h.here, e]; rfl
      have b1 : (bestS s 1).seq < m.seq := by
        rw [bestS_succ s 0]
        by_cases hk : okM (latS s ((0 : Nat) : Int)) 0 = true
        · have := h.other 0 (by omega) (by rw [e]; simp) hk
          split
          · exact this
          · show (0 : Int) < m.seq; omega
        · rw [if_neg (by simp only [Bool.not_eq_true] at hk; rw [hk]; simp)]
          show (0 : Int) < m.seq; omega
      rw [bestS_succ s 1, l1, okM_sec h.may (by rw [e]; rfl), parse_sec h.may, if_pos (by simp; omega)]
  rw [rdMT_up (by rw [h.n]; omega) hup m hb, if_neg (by omega)]

theorem Good.of_lat {s t : DS} {m : Mst} (h : Good s m) (hn : t.n = 40) (hd : t.down = false) (ho : ∀ k, t.fo k = none) (hl : ∀ k, latS t k = latS s k) : Good t m :=
  ⟨hn, hd, ho, h.may, by rw [hl, h.here], fun i hi hne hk => by rw [hl] at hk ⊢; exact h.other i hi hne hk⟩

theorem Good.next {s t : DS} {m x : Mst} (h : Good s m) (hx : x.may = true) (hsx : x.seq = m.seq + 1) (hn : t.n = 40) (hd : t.down = false) (ho : ∀ k, t.fo k = none)
    (hl : ∀ k, latS t k = if k = x.seq % 2 then secM x else latS s k) : Good t x := by
  refine ⟨hn, hd, ho, hx, by rw [hl, if_pos rfl], fun i hi hne hk => ?_⟩
  rw [hl, if_neg hne] at hk ⊢
  have e : (i : Int) = m.seq % 2 := by omega
  rw [e, h.here, parse_sec h.may]
  omega

/-- a master written on a disk that is armed for k: what is said, and the sector, which is open, or safe -/
theorem mw_armed {s : DS} {m x : Mst} (h : Good s m) (hx : x.may = true) {k : Int} (hk : 0 ≤ k ∧ k < 4) :
    (((mwT (armS s k) x).1 = 0 ∧ (mwT (armS s k) x).2.down = false ∧ (mwT (armS s k) x).2.fo = (fun _ => none) ∧ ∀ j, latS (mwT (armS s k) x).2 j = if j = x.seq % 2 then secM x else latS s j) ∨
     ((mwT (armS s k) x).1 = 8 ∧ (mwT (armS s k) x).2.fo = put s.fo (x.seq % 2) (secM x) ∧ (mwT (armS s k) x).2.fs = s.fs)) ∧ (mwT (armS s k) x).2.n = 40 := by
  have h1 := Int.emod_nonneg x.seq (show (2 : Int) ≠ 0 by omega)
  have h2 := Int.emod_lt_of_pos x.seq (show (0 : Int) < 2 by omega)
  have hn := h.n
  have ea : armS s k = { s with armed := k } := by unfold armS; rw [if_neg (by rw [h.d]; simp)]; congr 1; omega
  obtain ⟨n, fs, fo, a, d⟩ := s
  obtain rfl : n = 40 := hn
  obtain rfl : d = false := h.d
  have hfo : fo = fun _ => none := funext h.o
  subst hfo
  rw [ea]
  have lat : ∀ a' j, latS ⟨40, over (put (fun _ => none) (x.seq % 2) (secM x)) fs, fun _ => none, a', false⟩ j = if j = x.seq % 2 then secM x else latS ⟨40, fs, fun _ => none, a, false⟩ j := by
    intro a' j
    unfold latS over put
    by_cases e : j = x.seq % 2
    · simp only [if_pos e]; rfl
    · simp only [if_neg e]
  have hw : mwT ⟨40, fs, fun _ => none, k, false⟩ x = if (writeT ⟨40, fs, fun _ => none, k, false⟩ (x.seq % 2) (secM x)).1 ≠ 0 then writeT ⟨40, fs, fun _ => none, k, false⟩ (x.seq % 2) (secM x) else syncT (writeT ⟨40, fs, fun _ => none, k, false⟩ (x.seq % 2) (secM x)).2 := by
    unfold mwT
    rw [if_neg (by show ¬ (40 : Int) < 40; omega), if_neg (by rw [hx]; simp)]
  have hw2 : writeT ⟨40, fs, fun _ => none, k, false⟩ (x.seq % 2) (secM x) = (downE (crashS ⟨40, fs, put (fun _ => none) (x.seq % 2) (secM x), k, false⟩), crashS ⟨40, fs, put (fun _ => none) (x.seq % 2) (secM x), k, false⟩) := by
    unfold writeT
    rw [if_neg (by rw [mayE_up rfl ⟨h1, by show x.seq % 2 < 40; omega⟩]; simp), if_neg (by rw [secM_length]; simp)]
    rfl
  show (((mwT ⟨40, fs, fun _ => none, k, false⟩ x).1 = 0 ∧ _) ∨ _) ∧ _
  have hks : k = 0 ∨ k = 1 ∨ k = 2 ∨ k = 3 := by omega
  rcases hks with rfl | rfl | rfl | rfl
  · rw [hw, hw2]
    exact ⟨.inl ⟨rfl, rfl, rfl, lat 0⟩, rfl⟩
  · rw [hw, hw2]
    exact ⟨.inr ⟨rfl, rfl, rfl⟩, rfl⟩
  · rw [hw, hw2]
    exact ⟨.inr ⟨rfl, rfl, rfl⟩, rfl⟩
  · rw [hw, hw2]
    exact ⟨.inl ⟨rfl, rfl, rfl, lat 1⟩, rfl⟩

/-- .. and the disk behind a step -/
theorem kept_ok {s : DS} {m x : Mst} (h : Good s m) (hx : x.may = true) (hsx : x.seq = m.seq + 1) {k : Int} (hk : 0 ≤ k ∧ k < 4) (he : (mwT (armS s k) x).1 = 0) : Good (mwT (armS s k) x).2 x := by
  obtain ⟨h1 | h1, h2⟩ := mw_armed h hx hk
  · exact h.next hx hsx h2 h1.2.1 (fun j => by rw [h1.2.2.1]) h1.2.2.2
  · rw [h1.1] at he; cases he

theorem kept_wake {s : DS} {m x : Mst} (h : Good s m) (hx : x.may = true) (hsx : x.seq = m.seq + 1) {k : Int} (hk : 0 ≤ k ∧ k < 4) (ks : List Int) :
    Good (wakeS (mwT (armS s k) x).2 ks) x ∨ ((mwT (armS s k) x).1 = 8 ∧ Good (wakeS (mwT (armS s k) x).2 ks) m) := by
  obtain ⟨h1 | h1, h2⟩ := mw_armed h hx hk
  · refine .inl (h.next hx hsx h2 rfl (fun _ => rfl) fun j => ?_)
    rw [← h1.2.2.2 j]
    unfold latS wakeS wakeFs over
    rw [h1.2.2.1]
    simp
  · have hso : s.fo = fun _ => none := funext h.o
    by_cases hm : x.seq % 2 ∈ ks
    · refine .inl (h.next hx hsx h2 rfl (fun _ => rfl) fun j => ?_)
      unfold latS wakeS wakeFs over
      simp only [h1.2.1, h1.2.2, hso]
      unfold put
      by_cases e : j = x.seq % 2
      · simp [e, hm]
      · simp [e]
    · refine .inr ⟨h1.1, h.of_lat h2 rfl (fun _ => rfl) fun j => ?_⟩
      unfold latS wakeS wakeFs over
      simp only [h1.2.1, h1.2.2, hso]
      unfold put
      by_cases e : j = x.seq % 2
      · simp [e, hm]
      · simp [e]

end Go.Proofs.Ythkbnhoebijdoaa
