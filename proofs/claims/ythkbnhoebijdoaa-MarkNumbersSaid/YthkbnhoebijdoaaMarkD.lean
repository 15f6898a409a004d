/-
  Masters: read.
-/
import Derived.Test.YthkbnhoebijdoaaMarkC
import Derived.Laws.BytesString
import Derived.Laws.IdiomStrings
namespace Go.Proofs.Ythkbnhoebijdoaa
open Go Go.RowKit Go.SM

theorem conv_any {w : World} {D : Nat → Prop} {v : Value} {l : List UInt8} (hx : Rd w D 1 v l.length (u8s l)) (h0 : 0 < l.length) :
    (convert 51 9 v).run Try.prog w = .ok (.string ⟨l.toArray⟩) w := by
  obtain ⟨b, o, c, rfl, _, _, _, hc⟩ := hx.form h0
  exact run_convert_bytes_back w 51 9 5 ⟨b, o, none⟩ c l Try.underlying51 Try.underlying5 Try.underlying9 (fun j hj => by rw [Addr.add_lit]; exact hc j _ (u8s_get l j hj))

theorem equal_any {w : World} {D D' : Nat → Prop} {v v' : Value} {l l' : List UInt8} (hx : Rd w D 1 v l.length (u8s l)) (hy : Rd w D' 1 v' l'.length (u8s l')) (h0 : 0 < l.length) (h1 : 0 < l'.length) :
    Calls Try.prog 31 #[v, v'] w fun e w' => e = .returned (.bool (decide (l = l'))) ∧ w = w' := by
  have c1 := conv_any hx h0
  have c2 := conv_any hy h1
  obtain ⟨A, c, rfl⟩ := hx.slice
  obtain ⟨A', c', rfl⟩ := hy.slice
  have HX := Lib.hid c1
  have HY := Lib.hid c2
  clear c1 c2
  go_enter Try.func31, Try.ntmps31
  go_wp2_with (with_reducible refine at_ (o := ⟨some 6, _, _, _, _, _⟩) ?_)
  refine un (wpList_val (s := convert 51 9 _) rfl (by unfold execOp; rfl) HX.out ?_)
  go_frame
  go_wp2_with (with_reducible refine at_ (o := ⟨some 8, _, _, _, _, _⟩) ?_)
  refine un (wpList_val (s := convert 51 9 _) rfl (by unfold execOp; rfl) HY.out ?_)
  go_frame
  go_wp2_with fail
  go_returns
  have e : (l == l') = decide (l = l') := by rw [Bool.eq_iff_iff]; simp
  exact ⟨by rw [← e]; rfl, rfl⟩

/-- a result that lies in memory, and one beside it -/
theorem results_ct {P : Program} {fn : Func} {p u : Tmp} {ty : TypeId} (h : fn.results = #[.cell p ty, .tmp u]) (tmps : Array Value) (w : World) (g : Nat) (t : TypeId) (cs : Array Value) (d : TypeDesc)
    (hp : tmps.getD p undef = .pointer (some ⟨g, 0, none⟩)) (hg : w.heap[g]? = some (.cells cs t (0, 0)))
    (hu : P.underlying ty = some d) (hd : (match d with | .struct _ | .array _ _ => true | _ => false) = true) (hi : (P.info? ty).map (·.size) = some cs.size) :
    (results fn tmps).run P w = .ok (.tuple #[.agg cs, tmps.getD u undef]) w := by
  have hp' : tmps[p]?.getD undef = .pointer (some ⟨g, 0, none⟩) := by simpa using hp
  simp [results, h, hp', asAddr, run_loadVar_row w g t ty cs (0, 0) d hg hu hd hi]

def zeroM : Mst := ⟨0, 0, 0, 0⟩
theorem run_zeroM (w : World) : (zeroValue 27).run Try.prog w = .ok (mV zeroM) w := by
  have h : (Try.prog.info? 27).bind (·.zero) = some (mV zeroM) := by kernel_rfl
  obtain ⟨i, hi, hz⟩ := Option.bind_eq_some_iff.1 h
  simp [zeroValue, typeInfo, hi, hz]
theorem run_four (w : World) : (zeroValue 66).run Try.prog w = .ok (.agg (ints [0, 0, 0, 0]).toArray) w := by
  have h : (Try.prog.info? 66).bind (·.zero) = some (.agg (ints [0, 0, 0, 0]).toArray) := by kernel_rfl
  obtain ⟨i, hi, hz⟩ := Option.bind_eq_some_iff.1 h
  simp [zeroValue, typeInfo, hi, hz]

def step8 (a : Int) (c : UInt8) : Int := bits .or .i64 (wrap64 (a * 256)) (wrap64 (c.toNat : Int))
/-- the four numbers, when k of the bytes have gone by -/
def stN (l : List UInt8) : Nat → List Int
  | 0 => [0, 0, 0, 0]
  | k + 1 => (stN l k).set (k / 8) (step8 ((stN l k).getD (k / 8) 0) (l.getD k 0))
theorem stN_length (l : List UInt8) (k : Nat) : (stN l k).length = 4 := by
  induction k with
  | zero => rfl
  | succ k ih => rw [stN, List.length_set, ih]
def parseM (b : List UInt8) : Mst := ⟨(stN (b.drop 8) 32).getD 0 0, (stN (b.drop 8) 32).getD 1 0, (stN (b.drop 8) 32).getD 2 0, (stN (b.drop 8) 32).getD 3 0⟩
theorem parseM_eq (b : List UInt8) : parseM b = ⟨(stN (b.drop 8) 32).getD 0 0, (stN (b.drop 8) 32).getD 1 0, (stN (b.drop 8) 32).getD 2 0, (stN (b.drop 8) 32).getD 3 0⟩ := by unfold parseM; rfl
theorem parse_cells {w : World} {g : Nat} {l : List Int} {t : TypeId} (hl : l.length = 4) (hb : w.heap[g]? = some (.cells (ints l).toArray t (0, 0))) : MstAt w g ⟨l.getD 0 0, l.getD 1 0, l.getD 2 0, l.getD 3 0⟩ := by
  have hcell : ∀ t : Nat, t < 4 → w.cell? ⟨g, t, none⟩ = some (.int .i64 (l.getD t 0)) := fun t ht => by
    have htl : t < l.length := by omega
    rw [cell_of_row w g t _ _ _ hb]
    simp [ints, htl]
  exact ⟨hcell 0 (by omega), hcell 1 (by omega), hcell 2 (by omega), hcell 3 (by omega)⟩
def okM (b : List UInt8) (i : Nat) : Bool := (parseM b).may && ((parseM b).seq % 2 == (i : Int)) && decide (secM (parseM b) = b)
def bestS (s : DS) : Nat → Mst
  | 0 => zeroM
  | i + 1 => if (okM (latS s i) i && decide ((bestS s i).seq < (parseM (latS s i)).seq)) = true then parseM (latS s i) else bestS s i
theorem bestS_succ (s : DS) (i : Nat) : bestS s (i + 1) = if (okM (latS s i) i && decide ((bestS s i).seq < (parseM (latS s i)).seq)) = true then parseM (latS s i) else bestS s i := by rw [bestS]
theorem stN_succ (l : List UInt8) (k q : Nat) (hq : q = k / 8) : stN l (k + 1) = (stN l k).set q (step8 ((stN l k).getD q 0) (l.getD k 0)) := by rw [stN, hq]
/-- a disk's master: what is said, and the master -/
def rdMT (s : DS) : Int × Mst :=
  if s.n < 40 then (2, zeroM) else if mayE s 0 ≠ 0 then (mayE s 0, zeroM) else if (bestS s 2).seq = 0 then (4, zeroM) else (0, bestS s 2)

theorem run_buildM (w : World) : (Instr.build 27 #[]).run Try.prog w = .ok (mV zeroM) w := by
  have h : (Try.prog.info? 27).bind (·.zero) = some (mV zeroM) := by kernel_rfl
  obtain ⟨i, hi, hz⟩ := Option.bind_eq_some_iff.1 h
  have h8 : (Try.prog.info? 2).map (·.size) = some 1 := by kernel_rfl
  obtain ⟨i8, hi8, hz8⟩ := Option.map_eq_some_iff.1 h8
  have hu : Try.prog.underlying 27 = _ := Try.underlying27
  simp [Instr.build, zeroValue, typeInfo, hi, hz, run_underlying hu, sizeOf, hi8, Instr.fill, Value.cells, mV]

theorem mCells_list (m : Mst) : mCells m = [Value.int .i64 m.seq, .int .i64 m.turn, .int .i64 m.oldest, .int .i64 m.mark].toArray := rfl
theorem mCells_size (m : Mst) : (mCells m).size = 4 := rfl
theorem mCells_one (m : Mst) : ∀ u ∈ [Value.int .i64 m.seq, .int .i64 m.turn, .int .i64 m.oldest, .int .i64 m.mark], u.oneCell' = true := by
  intro u hu
  simp only [List.mem_cons, List.not_mem_nil, or_false] at hu
  rcases hu with rfl | rfl | rfl | rfl <;> rfl

theorem rdMT_up {s : DS} (hn : 40 ≤ s.n) (hu : mayE s 0 = 0) (B : Mst) (hB : bestS s 2 = B) : rdMT s = if B.seq = 0 then (4, zeroM) else (0, B) := by
  unfold rdMT
  rw [if_neg (by omega), if_neg (by rw [hu]; simp), hB]

theorem mk_read_no {w : World} {p : Value} (h : Nought w p) :
    Calls Try.prog 12 #[p] w fun e w' => e = .returned (.tuple #[mV zeroM, .int .i64 1]) ∧ Mod none_ w w' := by
  have H := Lib.hid h
  clear h
  go_enter Try.func12, Try.ntmps12
  go_wp2_with (with_reducible refine at_ (o := ⟨some 2, _, _, _, _, _⟩) ?_)
  refine un (wpList_alloc rfl 27 rfl (mCells zeroM) (run_zeroM _) ?_)
  intro w1 g hb1 hm1 hs1
  have H1 := Lib.hid (H.out.keep hm1 (fun _ _ e => e))
  have HM1 := Lib.hid hm1
  have HC1 := Lib.hid hb1
  clear hb1 hm1
  go_frame
  go_wp2_with (first | ((with_reducible refine (big_no H1.out).mono ?_); rintro e w' ⟨rfl, rfl⟩) | (with_reducible refine at_ (o := ⟨some 17, _, _, _, _, _⟩) ?_))
  refine un (wpList_val (s := Instr.build 27 #[]) rfl (by simp [execOp]) (run_buildM _) ?_)
  go_frame
  go_wp2_with (with_reducible refine at_ (o := ⟨none, .store _ _ _, _, _, _, _⟩) ?_)
  refine un (wpList_store rfl 27 _ _ rfl g rfl [.int .i64 0, .int .i64 0, .int .i64 0, .int .i64 0] rfl _ _ HC1.out rfl (by rw [mst_size]; rfl) (mCells_one zeroM) ?_)
  intro w2 hb2 hm2
  have HB2 := Lib.hid hb2
  have HM2 := Lib.hid (show Mod none_ w w2 from HM1.out.trans hm2 (fun r e hr => by omega))
  clear hb2 hm2
  go_frame
  go_wp2_with fail
  (try simp only [Exit.inBlock, Exit.then])
  refine bodyPost_ret (results_ct rfl _ _ g _ _ _ rfl HB2.out Try.underlying27 rfl (by rw [mst_size]; rfl)) rfl ?_
  exact ⟨rfl, HM2.out⟩

/-- a reader's own blocks: the answer, the best so far -/
def RdAt (w : World) (g2 g5 : Nat) (m : Mst) : Prop := w.heap[g2]? = some (.cells (mCells zeroM) 27 (0, 0)) ∧ w.heap[g5]? = some (.cells (mCells m) 27 (0, 0)) ∧ g2 ≠ g5
theorem RdAt.keep {w w' : World} {S : Nat → Prop} {g2 g5 : Nat} {m : Mst} (h : RdAt w g2 g5 m) (hm : Mod S w w') (h2 : ¬ S g2) (h5 : ¬ S g5) : RdAt w' g2 g5 m := ⟨hm.get h.1 h2, hm.get h.2.1 h5, h.2.2⟩

theorem lv_read_no0 {w0 w : World} {b ms mo : Nat} {s : DS} (h : Live w0 w b ms mo s) (n : Int) (r : Int) (hm : mayE s n = r) (hr : r ≠ 0) :
    Calls Try.prog 22 #[.pointer (some ⟨b, 0, none⟩), .int .i64 n] w fun e w' => e = .returned (.tuple #[.slice none 0 0, .int .i64 r]) ∧ Live w0 w' b ms mo s ∧ Mod none_ w w' ∧ Mod (dkOwn b ms mo) w w' := by
  subst hm
  exact (read_no h.at_ n hr).mono fun e w' ⟨he, hw⟩ => ⟨he, by rw [← hw]; exact h, by rw [← hw]; exact Mod.refl _ _, by rw [← hw]; exact Mod.refl _ _⟩
theorem lv_read0 {w0 w : World} {b ms mo : Nat} {s : DS} (h : Live w0 w b ms mo s) (n : Int) (l : List UInt8) (hl : latS s n = l) (hm : mayE s n = 0) :
    Calls Try.prog 22 #[.pointer (some ⟨b, 0, none⟩), .int .i64 n] w fun e w' =>
      ∃ v, e = .returned (.tuple #[v, .int .i64 0]) ∧ Rd w' (Fr w) 1 v 512 (u8s l) ∧ l.length = 512 ∧ Live w0 w' b ms mo s ∧ Mod none_ w w' := by
  subst hl
  refine (read_ok h.at_ n hm).mono fun _ _ ⟨v, he, ho, hm'⟩ => ⟨v, he, ho.rd, latS_len h.at_ n, h.keep hm', hm'⟩

theorem mayE_two {s : DS} (hn : 40 ≤ s.n) (i : Nat) (hi : i < 2) : mayE s i = mayE s 0 := by
  unfold mayE
  split
  · rfl
  · rw [if_neg (by omega), if_neg (by omega)]

set_option maxHeartbeats 8000000 in
set_option maxRecDepth 100000 in
theorem mk_read {w0 w : World} {b ms mo : Nat} {s : DS} (h : Live w0 w b ms mo s) :
    Calls Try.prog 12 #[.pointer (some ⟨b, 0, none⟩)] w fun e w' => e = .returned (.tuple #[mV (rdMT s).2, .int .i64 (rdMT s).1]) ∧ Live w0 w' b ms mo s ∧ Mod none_ w w' := by
  have HL := Lib.hid h
  clear h
  by_cases hn : s.n < 40
  · have HB := Lib.hid (show rdMT s = (2, zeroM) by unfold rdMT; rw [if_pos hn])
    go_enter Try.func12, Try.ntmps12
    go_wp2_with (with_reducible refine at_ (o := ⟨some 2, _, _, _, _, _⟩) ?_)
    refine un (wpList_alloc rfl 27 rfl (mCells zeroM) (run_zeroM _) ?_)
    intro w1 g hb1 hm1 hs1
    have HL1 := Lib.hid (HL.out.keep hm1)
    have HM1 := Lib.hid hm1
    have HC1 := Lib.hid hb1
    clear hb1 hm1
    go_frame
    go_wp2_with fail
    refine (big_live HL1.out).mono ?_
    rintro e w' ⟨rfl, rfl⟩
    rw [if_pos (by omega)]
    go_wp2_with (with_reducible refine at_ (o := ⟨some 17, _, _, _, _, _⟩) ?_)
    refine un (wpList_val (s := Instr.build 27 #[]) rfl (by simp [execOp]) (run_buildM _) ?_)
    go_frame
    go_wp2_with (with_reducible refine at_ (o := ⟨none, .store _ _ _, _, _, _, _⟩) ?_)
    refine un (wpList_store rfl 27 _ _ rfl g rfl [.int .i64 0, .int .i64 0, .int .i64 0, .int .i64 0] rfl _ _ HC1.out rfl (by rw [mst_size]; rfl) (mCells_one zeroM) ?_)
    intro w2 hb2 hm2
    have HB2 := Lib.hid hb2
    have HM2 := Lib.hid (show Mod none_ w w2 from HM1.out.trans hm2 (fun r e hr => by omega))
    have HL2 := Lib.hid (show Live w0 w2 b ms mo s from ⟨HL1.out.at_.keep hm2 (fun r hr e => by have h1 := HL.out.at_.own_lt r hr; omega), HL1.out.mod.trans hm2 (fun r e hr => by have h1 := HL.out.mod.size; omega), HL.out.own⟩)
    clear hb2 hm2
    go_frame
    go_wp2_with fail
    (try simp only [Exit.inBlock, Exit.then])
    refine bodyPost_ret (results_ct rfl _ _ g _ _ _ rfl HB2.out Try.underlying27 rfl (by rw [mst_size]; rfl)) rfl ?_
    rw [HB.out]
    exact ⟨rfl, HL2.out, HM2.out⟩
  · have hn40 : 40 ≤ s.n := by omega
    have HN := Lib.hid hn40
    go_enter Try.func12, Try.ntmps12
    go_wp2_with (with_reducible refine at_ (o := ⟨some 2, _, _, _, _, _⟩) ?_)
    refine un (wpList_alloc rfl 27 rfl (mCells zeroM) (run_zeroM _) ?_)
    intro w1 g2 hb1 hm1 hs1
    have HL1 := Lib.hid (HL.out.keep hm1)
    have HM1 := Lib.hid hm1
    have HC1 := Lib.hid hb1
    clear hb1 hm1
    go_frame
    go_wp2_with fail
    refine (big_live HL1.out).mono ?_
    rintro e w' ⟨rfl, rfl⟩
    rw [if_neg (by omega)]
    go_wp2_with (with_reducible refine at_ (o := ⟨some 5, _, _, _, _, _⟩) ?_)
    refine un (wpList_alloc rfl 27 rfl (mCells zeroM) (run_zeroM _) ?_)
    intro w2 g5 hb2 hm2 hs2
    have HG := Lib.hid (show (w.heap.size ≤ g2 ∧ w.heap.size ≤ g5) ∧ ¬ dkOwn b ms mo g2 ∧ ¬ dkOwn b ms mo g5 from by
      have h1 := HM1.out.size
      have h2 := HL.out.at_.own_lt
      exact ⟨by omega, fun e => by have := h2 _ e; omega, fun e => by have := h2 _ e; omega⟩)
    have HR2 := Lib.hid (show RdAt w2 g2 g5 zeroM from ⟨hm2.get HC1.out (fun e => e), hb2, fun e => by have h1 := blk_lt HC1.out; omega⟩)
    have HL2 := Lib.hid (HL1.out.keep hm2)
    have HM2 := Lib.hid (HM1.out.trans' hm2)
    clear hb2 hm2 hs1 hs2 HL1 HM1 HC1
    go_frame
    go_wp2_with fail
    go_loopw [19] (fun i wr => ∃ k : Nat, i = .int .i64 k ∧ k ≤ 2 ∧ (0 < k → mayE s 0 = 0) ∧ RdAt wr g2 g5 (bestS s k) ∧ Live w0 wr b ms mo s ∧ Mod none_ w wr) (fun i _ => 2 - (intOf i).toNat)
    case atStart => exact ⟨0, rfl, Nat.zero_le _, fun h => absurd h (by omega), HR2.out, HL2.out, HM2.out⟩
    case round =>
      obtain ⟨i, rfl, hi, hup, hr, hl, hm⟩ := hrel
      have HR := Lib.hid hr
      have HL3 := Lib.hid hl
      have HM3 := Lib.hid hm
      have HUP := Lib.hid hup
      clear hr hl hm hup HR2 HL2 HM2
      by_cases hi2 : i < 2
      · have d1 : decide ((i : Int) < 2) = true := by simp; omega
        by_cases hup : mayE s 0 = 0
        · have HU := Lib.hid hup
          have HMAY := Lib.hid ((mayE_two HN.out i hi2).trans hup)
          clear hup
          go_wp2_with fail
          refine (lv_read0 HL3.out i _ rfl HMAY.out).mono ?_
          rintro e w4 ⟨v4, rfl, hr4, hlen4, hl4, hm4⟩
          have hst := bestS_succ s i
          obtain ⟨B1, hB1⟩ : ∃ B1, bestS s (i + 1) = B1 := ⟨_, rfl⟩
          rw [hB1] at hst
          have HST := Lib.hid hst
          have HE1 := Lib.hid hB1
          clear hst hB1
          generalize latS s (i : Int) = bb at *
          have HR4 := Lib.hid (HR.out.keep hm4 (fun e => e) (fun e => e))
          generalize bestS s i = B0 at *
          have HM4 := Lib.hid (HM3.out.trans' hm4)
          have HL4 := Lib.hid hl4
          have HV4 := Lib.hid hr4
          have HLen := Lib.hid hlen4
          obtain ⟨b8, o8, c8, rfl, hc8, _, hb8, hq8⟩ := hr4.form (by omega)
          have HQ8 := Lib.hid hq8
          clear hl4 hm4 hr4 hlen4 hq8 HR HL3 HM3
          go_wp2_with (with_reducible refine at_ (o := ⟨some 9, _, _, _, _, _⟩) ?_)
          refine un (wpList_alloc rfl 66 rfl _ (run_four _) ?_)
          intro w5 g9 hb5 hm5 hs5
          have HR5 := Lib.hid (HR4.out.keep hm5 (fun e => e) (fun e => e))
          have HM5 := Lib.hid (HM4.out.trans' hm5)
          have HL5 := Lib.hid (HL4.out.keep hm5)
          have HV5 := Lib.hid (HV4.out.keep hm5 (fun _ _ _ e => e))
          have HB5 := Lib.hid hb5
          have HQ5 := Lib.hid (show ∀ k : Nat, k < 32 → w5.cell? ⟨b8, o8 + 8 + k, none⟩ = some (.int .u8 (((bb.drop 8).getD k 0).toNat : Int)) from fun k hk => by
            have hlt : 8 + k < bb.length := by rw [HLen.out]; omega
            have h1 := HQ8.out (8 + k) _ (u8s_get bb (8 + k) hlt)
            rw [show o8 + (8 + k) = o8 + 8 + k by omega] at h1
            rw [(hm5.cell (p := ⟨b8, o8 + 8 + k, none⟩) hb8 (fun e => e)).trans h1]
            simp [SM.u8, hlt])
          have HQA := Lib.hid (show ∀ i u, (u8s bb)[i]? = some u → w5.cell? ⟨b8, o8 + i, none⟩ = some u from fun i u hu => (hm5.cell (p := ⟨b8, o8 + i, none⟩) hb8 (fun e => e)).trans (HQ8.out i u hu))
          have HL85 := Lib.hid (show b8 < w5.heap.size from Nat.lt_of_lt_of_le hb8 hm5.size)
          have HG9 := Lib.hid (show w.heap.size ≤ g9 ∧ ¬ dkOwn b ms mo g9 ∧ g9 ≠ g2 ∧ g9 ≠ g5 ∧ b8 ≠ g9 from by
            have h1 := HM4.out.size
            have h2 := HL4.out.at_.own_lt
            have h3 := blk_lt HR4.out.1
            have h4 := blk_lt HR4.out.2.1
            exact ⟨by omega, fun e => by have := h2 _ e; omega, by omega, by omega, by omega⟩)
          clear hb5 hm5 hs5 HL4 HM4 HR4 HV4
          go_frame
          go_wp2_with fail
          go_loopw [35] (fun i wr => ∃ k : Nat, i = .int .i64 k ∧ k ≤ 32 ∧ wr.heap[g9]? = some (.cells (ints (stN (bb.drop 8) k)).toArray 66 (0, 0)) ∧ Mod (· = g9) w5 wr) (fun i _ => 32 - (intOf i).toNat)
          case atStart => exact ⟨0, rfl, Nat.zero_le _, HB5.out, Mod.refl _ _⟩
          case round =>
            obtain ⟨k, rfl, hk, hb, hm⟩ := hrel
            have HB6 := Lib.hid hb
            have HM6 := Lib.hid hm
            clear hb hm
            by_cases hk32 : k < 32
            · have d2 : decide ((k : Int) < 32) = true := by simp; omega
              have dk : (k : Int) < 32 := by omega
              obtain ⟨q, hq⟩ : ∃ q : Nat, q = k / 8 := ⟨_, rfl⟩
              have e8 : (k : Int) / 8 = (q : Int) := by omega
              have hq4 : (q : Int) < 4 := by omega
              have HST6 := Lib.hid (show stN (bb.drop 8) (k + 1) = (stN (bb.drop 8) k).set q (step8 ((stN (bb.drop 8) k).getD q 0) ((bb.drop 8).getD k 0)) from stN_succ _ _ _ hq)
              have q1 : wr.cell? ⟨b8, o8 + 8 + k, none⟩ = some (.int .u8 (((bb.drop 8).getD k 0).toNat : Int)) :=
                (HM6.out.cell (p := ⟨b8, o8 + 8 + k, none⟩) HL85.out (fun e => HG9.out.2.2.2.2 e)).trans (HQ5.out k hk32)
              have hql : q < (stN (bb.drop 8) k).length := by rw [stN_length]; omega
              have q2 : wr.cell? ⟨g9, q, none⟩ = some (.int .i64 ((stN (bb.drop 8) k).getD q 0)) := by
                rw [cell_of_row wr g9 q _ _ _ HB6.out]
                simp [ints, hql]
              have f2 : wr.frozen? ⟨g9, q, none⟩ = false := frozen_of_row wr g9 q _ _ HB6.out
              have HQL := Lib.hid hql
              have HQ := Lib.hid hq
              clear hql hq
              generalize (bb.drop 8).getD k 0 = c at *
              generalize (stN (bb.drop 8) k).getD q 0 = a at *
              go_wp2_with fail
              have hb7 := heap_setCell_same wr g9 q _ _ (Value.int .i64 (step8 a c)) HB6.out
              have hm7 : Mod (· = g9) w5 (wr.setCell ⟨g9, q, none⟩ (Value.int .i64 (step8 a c))) := HM6.out.setCell (p := ⟨g9, q, none⟩) (.inl rfl) _
              rw [List.setIfInBounds_toArray, show (ints (stN (bb.drop 8) k)).set q (Value.int .i64 (step8 a c)) = ints (stN (bb.drop 8) (k + 1)) by rw [HST6.out, ints, ints, List.map_set]] at hb7
              exact ⟨⟨k + 1, by go_num, by omega, hb7, hm7⟩, by simp [intOf]; omega⟩
            · obtain rfl : k = 32 := by omega
              have hM : MstAt wr g9 (parseM bb) := by rw [parseM_eq]; exact parse_cells (stN_length _ _) HB6.out
              have HOK := Lib.hid (show okM bb i = ((parseM bb).may && ((parseM bb).seq % 2 == (i : Int)) && decide (secM (parseM bb) = bb)) by rw [okM])
              generalize parseM bb = M at *
              obtain ⟨e0, e1, e2, e3⟩ := hM
              generalize okM bb i = ok at *
              have HR6 := Lib.hid (HR5.out.keep HM6.out (fun e => HG9.out.2.2.1 e.symm) (fun e => HG9.out.2.2.2.1 e.symm))
              have HL6 := Lib.hid (show Live w0 wr b ms mo s from ⟨HL5.out.at_.keep HM6.out (fun r hr e => HG9.out.2.1 (e ▸ hr)), HL5.out.mod.trans HM6.out (fun r e hr => by have h1 := HL.out.mod.size; have h2 := HG9.out.1; omega), HL.out.own⟩)
              have HV6 := Lib.hid (show Rd wr (fun _ => True) 1 (.slice (some ⟨b8, o8, none⟩) 512 c8) bb.length (u8s bb) from
                ⟨_, _, by rw [HLen.out], by rw [HLen.out]; exact hc8, by rw [length_u8s, Nat.mul_one], fun _ => ⟨b8, o8, rfl, trivial, Nat.lt_of_lt_of_le HL85.out HM6.out.size, fun i u hu => (HM6.out.cell (p := ⟨b8, o8 + i, none⟩) HL85.out (fun e => HG9.out.2.2.2.2 e)).trans (HQA.out i u hu)⟩⟩)
              have HM7 := Lib.hid (show Mod none_ w wr from HM5.out.trans HM6.out (fun r e hr => by have h2 := HG9.out.1; omega))
              go_wp2_with (with_reducible refine at_ (o := ⟨some 12, _, _, _, _, _⟩) ?_)
              refine un (wpList_alloc rfl 27 rfl (mCells zeroM) (run_zeroM _) ?_)
              intro w7 g12 hb7 hm7 hs7
              go_frame
              go_wp2_with (with_reducible refine at_ (o := ⟨none, .store _ _ _, _, _, _, _⟩) ?_)
              refine un ?_
              refine wpList_store rfl 27 _ _ rfl g12 rfl [.int .i64 M.seq, .int .i64 M.turn, .int .i64 M.oldest, .int .i64 M.mark] rfl _ _ hb7 (mCells_size zeroM) (by rw [mst_size]; rfl) (mCells_one M) ?_
              intro w8 hb8' hm8
              have hm78 : Mod none_ wr w8 := hm7.trans hm8 (fun r e hr => by omega)
              have HR8 := Lib.hid (HR6.out.keep hm78 (fun e => e) (fun e => e))
              have HL8 := Lib.hid (HL6.out.keep hm78)
              have HV8 := Lib.hid (HV6.out.keep hm78 (fun _ _ _ e => e))
              have HM8 := Lib.hid (HM7.out.trans' hm78)
              have HB8 := Lib.hid hb8'
              have HG12 := Lib.hid (show g2 ≠ g12 ∧ g5 ≠ g12 ∧ g12 < w8.heap.size from by
                have h3 := blk_lt HR6.out.1
                have h4 := blk_lt HR6.out.2.1
                exact ⟨by omega, by omega, blk_lt hb8'⟩)
              clear hm7 hm8 hm78 hb7 hb8' hs7 e0 e1 e2 e3 HR6 HL6 HV6 HM7 HB6 HM6 HR5 HL5 HM5 HV5 HQ5 HQA
              go_frame
              obtain ⟨e0, e1, e2, e3⟩ := MstAt.of (m := M) HB8.out
              obtain ⟨f0, _, _, _⟩ := MstAt.of (m := B0) HR8.out.2.1
              cases hmay : M.may with
              | false =>
                have HMY := Lib.hid hmay
                have HB1 := Lib.hid (show B1 = B0 by rw [HST.out, HOK.out, hmay]; rfl)
                clear hmay
                go_wp2_with fail
                refine (show Calls Try.prog 30 #[.agg #[.int .i64 M.seq, .int .i64 M.turn, .int .i64 M.oldest, .int .i64 M.mark]] _ _ from may_mst M _).mono ?_
                rintro e w9 ⟨rfl, hm9⟩
                rw [HMY.out]
                have HR9 := Lib.hid (HR8.out.keep hm9 (fun e => e) (fun e => e))
                have HL9 := Lib.hid (HL8.out.keep hm9)
                have HM9 := Lib.hid (HM8.out.trans' hm9)
                clear hm9
                go_wp2_with fail
                exact ⟨⟨i + 1, by go_num, by omega, fun _ => HU.out, by rw [HE1.out, HB1.out]; exact HR9.out, HL9.out, HM9.out⟩, by simp [intOf]; omega⟩
              | true =>
                have HMY := Lib.hid hmay
                clear hmay
                go_wp2_with fail
                refine (show Calls Try.prog 30 #[.agg #[.int .i64 M.seq, .int .i64 M.turn, .int .i64 M.oldest, .int .i64 M.mark]] _ _ from may_mst M _).mono ?_
                rintro e w9 ⟨rfl, hm9⟩
                rw [HMY.out]
                have HR9 := Lib.hid (HR8.out.keep hm9 (fun e => e) (fun e => e))
                have HL9 := Lib.hid (HL8.out.keep hm9)
                have HV9 := Lib.hid (HV8.out.keep hm9 (fun _ _ _ e => e))
                have HM9 := Lib.hid (HM8.out.trans' hm9)
                have HB9 := Lib.hid (hm9.get HB8.out (fun e => e))
                clear hm9 e0 e1 e2 e3 f0
                obtain ⟨e0, e1, e2, e3⟩ := MstAt.of (m := M) HB9.out
                cases hpar : (M.seq % 2 == (i : Int)) with
                | false =>
                  have HB1 := Lib.hid (show B1 = B0 by rw [HST.out, HOK.out, hpar]; simp)
                  have dp : (bits .and .i64 M.seq 1 == (i : Int)) = false := by rw [i64_and1]; exact hpar
                  clear hpar
                  go_wp2_with fail
                  exact ⟨⟨i + 1, by go_num, by omega, fun _ => HU.out, by rw [HE1.out, HB1.out]; exact HR9.out, HL9.out, HM9.out⟩, by simp [intOf]; omega⟩
                | true =>
                  have HPAR := Lib.hid hpar
                  have dp : (bits .and .i64 M.seq 1 == (i : Int)) = true := by rw [i64_and1]; exact hpar
                  clear hpar
                  go_wp2_with fail
                  refine (show Calls Try.prog 32 #[.agg #[.int .i64 M.seq, .int .i64 M.turn, .int .i64 M.oldest, .int .i64 M.mark]] _ _ from mbytes_any M _).mono ?_
                  rintro e w10 ⟨v10, rfl, ho10, hm10⟩
                  have HR10 := Lib.hid (HR9.out.keep hm10 (fun e => e) (fun e => e))
                  have HL10 := Lib.hid (HL9.out.keep hm10)
                  have HV10 := Lib.hid (HV9.out.keep hm10 (fun _ _ _ e => e))
                  have HM10 := Lib.hid (HM9.out.trans' hm10)
                  have HB10 := Lib.hid (hm10.get HB9.out (fun e => e))
                  have HO10 := Lib.hid (show Rd w10 (Fr w9) 1 v10 (secM M).length (u8s (secM M)) by rw [secM_length]; exact ho10.rd)
                  clear hm10 ho10 e0 e1 e2 e3
                  obtain ⟨e0, e1, e2, e3⟩ := MstAt.of (m := M) HB10.out
                  obtain ⟨f0, _, _, _⟩ := MstAt.of (m := B0) HR10.out.2.1
                  go_wp2_with fail
                  refine (equal_any HO10.out HV10.out (by rw [secM_length]; omega) (by rw [HLen.out]; omega)).mono ?_
                  rintro e w' ⟨rfl, rfl⟩
                  cases heq : decide (secM M = bb) with
                  | false =>
                    have HB1 := Lib.hid (show B1 = B0 by rw [HST.out, HOK.out, heq]; simp)
                    clear heq
                    go_wp2_with fail
                    exact ⟨⟨i + 1, by go_num, by omega, fun _ => HU.out, by rw [HE1.out, HB1.out]; exact HR10.out, HL10.out, HM10.out⟩, by simp [intOf]; omega⟩
                  | true =>
                    have HOKT := Lib.hid (show ok = true by rw [HOK.out, HMY.out, HPAR.out, heq]; rfl)
                    clear heq
                    by_cases hgt : B0.seq < M.seq
                    · have HB1 := Lib.hid (show B1 = M by rw [HST.out, HOKT.out, decide_eq_true hgt]; rfl)
                      have dg : decide (B0.seq < M.seq) = true := by simpa using hgt
                      go_wp2_with (with_reducible refine at_ (o := ⟨none, .store _ _ _, _, _, _, _⟩) ?_)
                      refine un (wpList_store rfl 27 _ _ rfl g5 rfl [.int .i64 M.seq, .int .i64 M.turn, .int .i64 M.oldest, .int .i64 M.mark] rfl _ _ HR10.out.2.1 (mCells_size B0) (by rw [mst_size]; rfl) (mCells_one M) ?_)
                      intro w11 hb11 hm11
                      have HR11 := Lib.hid (show RdAt w11 g2 g5 M from ⟨hm11.get HR10.out.1 HR10.out.2.2, hb11, HR10.out.2.2⟩)
                      have HL11 := Lib.hid (show Live w0 w11 b ms mo s from ⟨HL10.out.at_.keep hm11 (fun r hr e => HG.out.2.2 (e ▸ hr)), HL10.out.mod.trans hm11 (fun r e hr => by have h1 := HL.out.mod.size; have h2 := HG.out.1; omega), HL.out.own⟩)
                      have HM11 := Lib.hid (show Mod none_ w w11 from HM10.out.trans hm11 (fun r e hr => by have h2 := HG.out.1; omega))
                      clear hm11 hb11
                      go_frame
                      go_wp2_with fail
                      exact ⟨⟨i + 1, by go_num, by omega, fun _ => HU.out, by rw [HE1.out, HB1.out]; exact HR11.out, HL11.out, HM11.out⟩, by simp [intOf]; omega⟩
                    · have HB1 := Lib.hid (show B1 = B0 by rw [HST.out, HOKT.out, decide_eq_false hgt]; rfl)
                      have dg : decide (B0.seq < M.seq) = false := by simpa using hgt
                      go_wp2_with fail
                      exact ⟨⟨i + 1, by go_num, by omega, fun _ => HU.out, by rw [HE1.out, HB1.out]; exact HR10.out, HL10.out, HM10.out⟩, by simp [intOf]; omega⟩
        · have HU := Lib.hid hup
          have HMAY := Lib.hid (mayE_two HN.out i hi2)
          have dz : (mayE s 0 != 0) = true := by simpa using hup
          have HB := Lib.hid (show rdMT s = (mayE s 0, zeroM) by unfold rdMT; rw [if_neg (by omega), if_pos hup])
          have HI0 := Lib.hid (show i = 0 from (Nat.eq_zero_or_pos i).elim id (fun h => absurd (HUP.out h) hup))
          clear hup
          go_wp2_with fail
          refine (lv_read_no0 HL3.out i (mayE s 0) HMAY.out HU.out).mono ?_
          rintro e w4 ⟨rfl, hl4, hm4', hm4⟩
          have HR4 := Lib.hid (HR.out.keep hm4 HG.out.2.1 HG.out.2.2)
          have HM4 := Lib.hid (HM3.out.trans' hm4')
          have HL4 := Lib.hid hl4
          clear hl4 hm4 hm4'
          generalize mayE s 0 = E at *
          go_wp2_with (with_reducible refine at_ (o := ⟨some 30, _, _, _, _, _⟩) ?_)
          refine un (wpList_val (s := Instr.build 27 #[]) rfl (by simp [execOp]) (run_buildM _) ?_)
          go_frame
          go_wp2_with (with_reducible refine at_ (o := ⟨none, .store _ _ _, _, _, _, _⟩) ?_)
          refine un (wpList_store rfl 27 _ _ rfl g2 rfl [.int .i64 0, .int .i64 0, .int .i64 0, .int .i64 0] rfl _ _ HR4.out.1 (mCells_size zeroM) (by rw [mst_size]; rfl) (mCells_one zeroM) ?_)
          intro w5 hb5 hm5
          have HB5 := Lib.hid hb5
          have HM5 := Lib.hid (show Mod none_ w w5 from HM4.out.trans hm5 (fun r e hr => by have h1 := HG.out.1; omega))
          have HL5 := Lib.hid (show Live w0 w5 b ms mo s from ⟨HL4.out.at_.keep hm5 (fun r hr e => HG.out.2.1 (e ▸ hr)), HL4.out.mod.trans hm5 (fun r e hr => by have h1 := HL.out.mod.size; have h2 := HG.out.1; omega), HL.out.own⟩)
          clear hb5 hm5
          go_frame
          go_wp2_with fail
          (try simp only [Exit.inBlock, Exit.then])
          refine bodyPost_ret (results_ct rfl _ _ g2 _ _ _ rfl HB5.out Try.underlying27 rfl (by rw [mst_size]; rfl)) rfl ?_
          rw [HB.out]
          exact ⟨rfl, HL5.out, HM5.out⟩
      · obtain rfl : i = 2 := by omega
        have HU := Lib.hid (HUP.out (by omega))
        obtain ⟨B, hB⟩ : ∃ B, bestS s 2 = B := ⟨_, rfl⟩
        have HRD := Lib.hid (rdMT_up HN.out HU.out B hB)
        have hr2 := HR.out
        rw [hB] at hr2
        have HRB := Lib.hid hr2
        clear hr2 hB HR
        by_cases hz : B.seq = 0
        · have dz : (B.seq == 0) = true := by simpa using hz
          have HB := Lib.hid (show rdMT s = (4, zeroM) by rw [HRD.out, if_pos hz])
          obtain ⟨c0, c1, c2, c3⟩ := MstAt.of HRB.out.2.1
          clear hz
          go_wp2_with (with_reducible refine at_ (o := ⟨some 88, _, _, _, _, _⟩) ?_)
          refine un (wpList_val (s := Instr.build 27 #[]) rfl (by simp [execOp]) (run_buildM _) ?_)
          go_frame
          go_wp2_with (with_reducible refine at_ (o := ⟨none, .store _ _ _, _, _, _, _⟩) ?_)
          refine un (wpList_store rfl 27 _ _ rfl g2 rfl [.int .i64 0, .int .i64 0, .int .i64 0, .int .i64 0] rfl _ _ HRB.out.1 (mCells_size zeroM) (by rw [mst_size]; rfl) (mCells_one zeroM) ?_)
          intro w4 hb4 hm4
          have HB4 := Lib.hid hb4
          have HM4 := Lib.hid (show Mod none_ w w4 from HM3.out.trans hm4 (fun r e hr => by have h1 := HG.out.1; omega))
          have HL4 := Lib.hid (show Live w0 w4 b ms mo s from ⟨HL3.out.at_.keep hm4 (fun r hr e => HG.out.2.1 (e ▸ hr)), HL3.out.mod.trans hm4 (fun r e hr => by have h1 := HL.out.mod.size; have h2 := HG.out.1; omega), HL.out.own⟩)
          clear hb4 hm4
          go_frame
          go_wp2_with fail
          (try simp only [Exit.inBlock, Exit.then])
          refine bodyPost_ret (results_ct rfl _ _ g2 _ _ _ rfl HB4.out Try.underlying27 rfl (by rw [mst_size]; rfl)) rfl ?_
          rw [HB.out]
          exact ⟨rfl, HL4.out, HM4.out⟩
        · have dz : (B.seq == 0) = false := by simpa using hz
          have HB := Lib.hid (show rdMT s = (0, B) by rw [HRD.out, if_neg hz])
          obtain ⟨c0, c1, c2, c3⟩ := MstAt.of HRB.out.2.1
          clear hz
          go_wp2_with (with_reducible refine at_ (o := ⟨none, .store _ _ _, _, _, _, _⟩) ?_)
          refine un (wpList_store rfl 27 _ _ rfl g2 rfl [.int .i64 B.seq, .int .i64 B.turn, .int .i64 B.oldest, .int .i64 B.mark] rfl _ _ HRB.out.1 (mCells_size zeroM) (by rw [mst_size]; rfl) (mCells_one B) ?_)
          intro w4 hb4 hm4
          have HB4 := Lib.hid hb4
          have HM4 := Lib.hid (show Mod none_ w w4 from HM3.out.trans hm4 (fun r e hr => by have h1 := HG.out.1; omega))
          have HL4 := Lib.hid (show Live w0 w4 b ms mo s from ⟨HL3.out.at_.keep hm4 (fun r hr e => HG.out.2.1 (e ▸ hr)), HL3.out.mod.trans hm4 (fun r e hr => by have h1 := HL.out.mod.size; have h2 := HG.out.1; omega), HL.out.own⟩)
          clear hb4 hm4
          go_frame
          go_wp2_with fail
          (try simp only [Exit.inBlock, Exit.then])
          refine bodyPost_ret (results_ct rfl _ _ g2 _ _ _ rfl HB4.out Try.underlying27 rfl (by rw [mst_size]; rfl)) rfl ?_
          rw [HB.out]
          exact ⟨rfl, HL4.out, HM4.out⟩

end Go.Proofs.Ythkbnhoebijdoaa
