/-
  Masters: their bytes.
-/
import Derived.Test.YthkbnhoebijdoaaMarkA
import Derived.Test.YthkbnhoebijdoaaZeros
import Derived.Test.YthkbnhoebijdoaaArgF
import Derived.Lib.SlBytesConst
import Derived.ArgAppend
namespace Go.SM
open Go Go.RowKit

/-- a slice of the call's own, or one that is full, of which nothing is known but what it reads as -/
def MyS (w : World) (D : Nat → Prop) (e : TypeId) (v : Value) (n : Nat) (xs : List Value) : Prop := OwnS w D e 1 v n xs ∨ ∃ a, v = .slice (some a) n n ∧ Rd w D 1 v n xs ∧ 0 < n
theorem MyS.keep {w w' : World} {S D : Nat → Prop} {e : TypeId} {v : Value} {n : Nat} {xs : List Value} (h : MyS w D e v n xs) (hm : Mod S w w') (hd : ∀ r, D r → r < w.heap.size → ¬ S r) : MyS w' D e v n xs := by
  rcases h with h | ⟨a, h1, h2, h3⟩
  · exact .inl (h.keep hm hd)
  · exact .inr ⟨a, h1, h2.keep hm hd, h3⟩
theorem MyS.rd {w : World} {D : Nat → Prop} {e : TypeId} {v : Value} {n : Nat} {xs : List Value} (h : MyS w D e v n xs) : Rd w D 1 v n xs := by
  rcases h with h | ⟨a, h1, h2, h3⟩
  · exact h.rd
  · exact h2

section
variable {P : Program} {w : World} {ops : Array Oper} {rest : List Oper} {o : Oper} {a : Act} {Q : Exit → Act → World → Prop}
theorem wpList_appendM (hg : o.guard = none) (s x : Operand) (t : TypeId) (hop : o.op = .call { callee := .builtin .append, args := #[s, x], argTypes := #[t, t] }) {e : TypeId} {bytes : Nat} (E : Elt P t e 1 bytes)
    {D Dx : Nat → Prop} {v : Value} {n : Nat} {xs : List Value} (hs : a.eval s = v) (hown : MyS w D e v n xs) {xv : Value} {m : Nat} {news : List Value} (hxv : a.eval x = xv) (hx : Rd w Dx 1 xv m news) (hm0 : 0 < m)
    (h1 : ∀ u ∈ news, u.oneCell' = true) (hb : (n + m) * bytes ≤ 140737488355328) (hm : n + m ≤ 140737488355328) (hD : ∀ r, w.heap.size ≤ r → D r)
    (h : ∀ v' w', OwnS w' D e 1 v' (n + m) (xs ++ news) → Mod D w w' → wpList P ops Q rest (a.put o.dst v') w') : wpList P ops Q (o :: rest) a w := by
  rcases hown with hown | ⟨ad, rfl, hr, hn0⟩
  · exact wpList_append hg s x t hop E hs hown hxv hx h1 hb hm hD h
  · obtain ⟨i, z, hi, hz, hsz, hby, hzs⟩ := E.info
    obtain ⟨b, off, c, he, _, hDb, hbl, hcell⟩ := hr.form hn0
    simp only [Value.slice.injEq, Option.some.injEq] at he
    obtain ⟨rfl, _, _⟩ := he
    obtain ⟨b2, off2, c2, rfl, _, _, _, hc2⟩ := hx.form hm0
    refine Go.wpList_append_grows w hg s x t hop e i z 1 bytes E.under hi hz hsz hby hzs (by omega) (some ⟨b, off, none⟩) n n xs hs (by simp) (by rw [hr.len]) (fun bb hbb j u hu => ?_) ⟨b2, off2, none⟩ m c2 news hxv (by rw [hx.len]) (fun j u hu => by rw [Addr.add_lit]; exact hc2 j u hu) h1 (by omega) (by simp only [maxLen]; omega) hb ?_
    · injection hbb with hbb
      subst hbb
      rw [Addr.add_lit]
      exact hcell j u hu
    · intro v' w' ho hgr
      refine h v' w' ⟨?_, ?_⟩ ((Mod.refl _ _).grown hgr (fun k hk => by cases hk))
      · refine ⟨ho.1, ?_⟩
        rcases ho.2 with h2 | ⟨g, cap, cur, h2, h3, h4⟩
        · exact .inl h2
        · exact .inr ⟨g, cap, cur, h2, Nat.zero_le _, h4⟩
      · intro g hg
        exact hD g (ho.lt g hg).1
end
end Go.SM

namespace Go.Proofs.Ythkbnhoebijdoaa
open Go Go.RowKit Go.SM

def byteAt (n : Int) (k : Nat) : UInt8 := UInt8.ofNat (n / 2 ^ k % 256).toNat
theorem byteAt_cell (n : Int) (k : Nat) : SM.u8 (byteAt n k) = .int .u8 (n / 2 ^ k % 256) := by
  have h1 := Int.emod_nonneg (n / 2 ^ k) (show (256 : Int) ≠ 0 by omega)
  have h2 := Int.emod_lt_of_pos (n / 2 ^ k) (show (0 : Int) < 256 by omega)
  unfold SM.u8 byteAt
  generalize n / 2 ^ k % 256 = x at *
  have : ((UInt8.ofNat x.toNat).toNat : Int) = x := by rw [UInt8.toNat_ofNat']; omega
  rw [this]
/-- a number's eight bytes, the greatest first -/
def be8 (n : Int) : List UInt8 := [byteAt n 56, byteAt n 48, byteAt n 40, byteAt n 32, byteAt n 24, byteAt n 16, byteAt n 8, byteAt n 0]
theorem be8_length (n : Int) : (be8 n).length = 8 := rfl
theorem be8_step (n : Int) (j : Nat) (h : j < 8) : (be8 n).take (j + 1) = (be8 n).take j ++ [byteAt n (56 - 8 * j)] := by
  match j, h with
  | 0, _ | 1, _ | 2, _ | 3, _ | 4, _ | 5, _ | 6, _ | 7, _ => rfl
def nameB : List UInt8 := [115, 116, 111, 114, 101, 109, 97, 110]
def headB (l : List Int) : List UInt8 := nameB ++ l.flatMap be8
theorem flat_length (l : List Int) : (l.flatMap be8).length = 8 * l.length := by
  induction l with
  | nil => rfl
  | cons x l ih => rw [List.flatMap_cons, List.length_append, be8_length, ih, List.length_cons]; omega
theorem headB_length (l : List Int) : (headB l).length = 8 + 8 * l.length := by
  unfold headB
  rw [List.length_append, flat_length]
  rfl
theorem headB_step (l : List Int) (k : Nat) (h : k < l.length) : headB (l.take (k + 1)) = headB (l.take k) ++ be8 l[k] := by
  unfold headB
  rw [List.take_succ_eq_append_getElem h, List.flatMap_append, List.flatMap_singleton, List.append_assoc]
def secL (l : List Int) : List UInt8 := headB l ++ List.replicate 472 0
def Mst.nums (m : Mst) : List Int := [m.seq, m.turn, m.oldest, m.mark]
/-- a master's sector -/
def secM (m : Mst) : List UInt8 := secL m.nums
theorem secM_length (m : Mst) : (secM m).length = 512 := by unfold secM secL; rw [List.length_append, headB_length, List.length_replicate]; rfl

theorem elt8 : Elt Try.prog 51 5 1 1 := Elt.mk' (.int .u8 0) Try.underlying51 (by kernel_rfl) rfl (by decide)

set_option maxHeartbeats 2000000 in
set_option maxRecDepth 100000 in
theorem sector_any {w : World} {D : Nat → Prop} {v : Value} {l : List Int} (hx : Rd w D 1 v 4 (ints l)) (hl : l.length = 4) :
    Calls Try.prog 45 #[v] w fun e w' => ∃ v', e = .returned v' ∧ OwnS w' (Fr w) 5 1 v' 512 (u8s (secL l)) ∧ Mod none_ w w' := by
  obtain ⟨gx, ox, cx, rfl, _, hDx, hgx, hcx⟩ := hx.form (by omega)
  have HC := Lib.hid hcx
  clear hcx hx
  go_enter Try.func45, Try.ntmps45
  go_wp2_with (with_reducible refine at_ (o := ⟨some 8, _, _, _, _, _⟩) ?_)
  refine un (wpList_val (s := convert 51 51 _) rfl (by unfold execOp; rfl) (Go.Lib.run_convert_bytes_const w 51 5 (u8s nameB).toArray 8 8 Try.underlying51 Try.underlying5) ?_)
  have hma := (Mod.refl none_ w).alloc (.cells (u8s nameB).toArray 5 (8, 9))
  have HM0 := Lib.hid hma
  have HO0 := Lib.hid (show MyS (w.alloc (.cells (u8s nameB).toArray 5 (8, 9))) (Fr w) 5 (.slice (some ⟨w.heap.size, 0, none⟩) 8 8) 8 (u8s nameB) from
    .inr ⟨_, rfl, ⟨_, _, rfl, Nat.le_refl _, rfl, fun _ => ⟨_, _, rfl, Nat.le_refl _, by simp, block_cells (xs := u8s nameB) (by show (w.heap.push _)[w.heap.size]? = _; rw [Array.getElem?_push, if_pos rfl])⟩⟩, by omega⟩)
  clear hma
  go_frame
  go_wp2_with fail
  go_loopw [3, 11] (fun o i wr => ∃ (k : Nat) (v : Value), i = .int .i64 k ∧ o = v ∧ k ≤ 4 ∧ MyS wr (Fr w) 5 v (8 + 8 * k) (u8s (headB (l.take k))) ∧ (0 < k → OwnS wr (Fr w) 5 1 v (8 + 8 * k) (u8s (headB (l.take k)))) ∧ Mod none_ w wr) (fun _ i _ => 4 - (intOf i).toNat)
  case atStart => exact ⟨0, _, rfl, rfl, by omega, HO0.out, fun h => absurd h (by omega), HM0.out⟩
  case round =>
    obtain ⟨k, v, rfl, rfl, hk, ho, ho2, hm⟩ := hrel
    have HO := Lib.hid ho
    have HW := Lib.hid ho2
    have HM := Lib.hid hm
    clear ho ho2 hm HO0 HM0
    by_cases hk4 : k < 4
    · have d1 : decide ((k : Int) < 4) = true := by simp; omega
      have d4 : (k : Int) < 4 := by omega
      have hkl : k < l.length := by omega
      have q : wr.cell? ⟨gx, ox + k, none⟩ = some (.int .i64 l[k]) := (HM.out.cell (p := ⟨gx, ox + k, none⟩) hgx (fun e => e)).trans (HC.out k _ (by simp [ints, hkl]))
      have HS := Lib.hid (headB_step l k hkl)
      go_wp2_with fail
      generalize l[k] = n at *
      go_loopw [3, 6] (fun o i wr => ∃ (z : Int) (j : Nat) (v : Value), i = .int .i64 z ∧ o = v ∧ z = 56 - 8 * (j : Int) ∧ j ≤ 8 ∧ MyS wr (Fr w) 5 v (8 + 8 * k + j) (u8s (headB (l.take k) ++ (be8 n).take j)) ∧ (0 < j → OwnS wr (Fr w) 5 1 v (8 + 8 * k + j) (u8s (headB (l.take k) ++ (be8 n).take j))) ∧ Mod none_ w wr) (fun _ i _ => (intOf i + 8).toNat)
      case atStart => exact ⟨56, 0, _, rfl, rfl, by omega, by omega, by rw [List.take_zero, List.append_nil]; exact HO.out, fun h => absurd h (by omega), HM.out⟩
      case round =>
        obtain ⟨z, j, v, rfl, rfl, hz, hj, ho, ho2, hm⟩ := hrel
        have HO2 := Lib.hid ho
        have HW2 := Lib.hid ho2
        have HM2 := Lib.hid hm
        clear ho ho2 hm HO HM HW q
        by_cases hj8 : j < 8
        · obtain ⟨r, rfl⟩ : ∃ r : Nat, z = r := ⟨z.toNat, by omega⟩
          have hr : r = 56 - 8 * j := by omega
          have d2 : decide ((0 : Int) ≤ (r : Int)) = true := by simp
          have hr64 : r ≤ 56 := by omega
          go_wp2_with (with_reducible refine at_ (o := ⟨some 25, _, _, _, _, _⟩) ?_)
          have hma := (Mod.refl none_ wr).alloc (.cells #[.int .u8 (n / 2 ^ (56 - 8 * j) % 256)] 5)
          have HRA := Lib.hid (show Rd (wr.alloc (.cells #[.int .u8 (n / 2 ^ (56 - 8 * j) % 256)] 5)) (Fr wr) 1 (.slice (some ⟨wr.heap.size, 0, none⟩) 1 1) 1 (u8s [byteAt n (56 - 8 * j)]) from
            ⟨_, _, rfl, Nat.le_refl _, rfl, fun _ => ⟨_, _, rfl, Nat.le_refl _, by simp, block_cells (xs := u8s [byteAt n (56 - 8 * j)]) (by rw [show u8s [byteAt n (56 - 8 * j)] = [SM.u8 (byteAt n (56 - 8 * j))] from rfl, byteAt_cell]; exact heap_alloc_new wr _)⟩⟩)
          have HOA := Lib.hid (HO2.out.keep hma (fun _ _ _ e => e))
          have HMA := Lib.hid (HM2.out.trans' hma)
          have HBS := Lib.hid (be8_step n j hj8)
          clear hma
          refine un (wpList_appendM rfl _ _ 51 rfl elt8 rfl HOA.out rfl HRA.out (by omega) (u8s_one _) (by omega) (by omega) (Fr.of HMA.out.size) ?_)
          intro v7 w7 ho7 hm7
          have HO7 := Lib.hid (show OwnS w7 (Fr w) 5 1 v7 (8 + 8 * k + (j + 1)) (u8s (headB (l.take k) ++ (be8 n).take (j + 1))) by
            rw [HBS.out, ← List.append_assoc, u8s_append]
            exact ho7)
          have HM7 := Lib.hid (HMA.out.trans hm7 (fun r e hr => by unfold Fr at e; omega))
          clear ho7 hm7
          go_frame
          go_wp2_with fail
          exact ⟨⟨(r : Int) - 8, j + 1, _, by go_num, rfl, by omega, by omega, .inl HO7.out, fun _ => HO7.out, HM7.out⟩, by simp [intOf] <;> omega⟩
        · obtain rfl : j = 8 := by omega
          have d2 : decide ((0 : Int) ≤ z) = false := by simp; omega
          have hz0 : ¬ (0 : Int) ≤ z := by omega
          go_wp2_with fail
          have h := HW2.out (by omega)
          rw [show (be8 n).take 8 = be8 n from rfl, ← HS.out] at h
          exact ⟨⟨k + 1, _, by go_num, rfl, by omega, .inl h, fun _ => h, HM2.out⟩, by simp [intOf] <;> omega⟩
    · obtain rfl : k = 4 := by omega
      have hlt : l.take 4 = l := List.take_of_length_le (by omega)
      have HO4 := Lib.hid (show OwnS wr (Fr w) 5 1 _ 40 (u8s (headB l)) by have h := HW.out (by omega); rw [hlt] at h; exact h)
      obtain ⟨A3, c3, rfl⟩ := HO4.out.rd.slice
      go_wp2_with (with_reducible refine at_ (o := ⟨some 31, _, _, _, _, _⟩) ?_)
      refine un (wpList_zeros (m := 472) rfl _ _ 51 3 rfl Try.underlying51 Try.underlying3 (.int .u8 0) 1 binfo rfl rfl (by decide) rfl HO4.out rfl (by omega) (Fr.of HM.out.size) ?_)
      intro v' w' ho' hm'
      go_frame
      go_wp2_with fail
      go_returns
      refine ⟨_, rfl, ?_, HM.out.trans hm' (fun r e hr => by unfold Fr at e; omega)⟩
      unfold secL
      rw [u8s_append, show u8s (List.replicate 472 0) = List.replicate 472 (Value.int .u8 0) from by simp [u8s, SM.u8]]
      exact ho'

theorem mst_size : (Try.prog.info? 27).map (·.size) = some 4 := by kernel_rfl

set_option maxHeartbeats 1000000 in
/-- a master's bytes -/
theorem mbytes_any (m : Mst) (w : World) : Calls Try.prog 32 #[mV m] w fun e w' => ∃ v', e = .returned v' ∧ OwnS w' (Fr w) 5 1 v' 512 (u8s (secM m)) ∧ Mod none_ w w' := by
  unfold mV mCells
  go_enter Try.func32, Try.ntmps32
  go_wp2_with (with_reducible refine at_ (o := ⟨some 1, .box _ _, _, _, _, _⟩) ?_)
  refine un (wpList_box rfl 27 _ rfl _ rfl ?_)
  intro w1 g hb1 hm1 hs1
  obtain ⟨c0, c1, c2, c3⟩ := MstAt.of (m := m) hb1
  have HM := Lib.hid hm1
  clear hb1 hm1 hs1
  go_frame
  go_wp2_with fail
  have hma := (Mod.refl none_ w1).alloc (.cells #[.int .i64 m.seq, .int .i64 m.turn, .int .i64 m.oldest, .int .i64 m.mark] 2)
  have HRA := Lib.hid (show Rd (w1.alloc (.cells #[.int .i64 m.seq, .int .i64 m.turn, .int .i64 m.oldest, .int .i64 m.mark] 2)) (Fr w) 1 (.slice (some ⟨w1.heap.size, 0, none⟩) 4 4) 4 (ints m.nums) from
    ⟨_, _, rfl, Nat.le_refl _, rfl, fun _ => ⟨_, _, rfl, HM.out.size, by simp, block_cells (xs := ints m.nums) (heap_alloc_new w1 _)⟩⟩)
  have HMA := Lib.hid (HM.out.trans' hma)
  clear hma
  refine (sector_any HRA.out rfl).mono ?_
  rintro e w2 ⟨v2, rfl, ho2, hm2⟩
  have HO2 := Lib.hid (ho2.mono (fun r hr _ => Nat.le_trans HMA.out.size hr))
  have HM2 := Lib.hid (HMA.out.trans' hm2)
  clear ho2 hm2
  go_wp2_with fail
  go_returns
  exact ⟨_, rfl, HO2.out, HM2.out⟩

end Go.Proofs.Ythkbnhoebijdoaa
