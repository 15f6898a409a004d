/-
  Small functions that all laws use: Pick, SameBytes.
-/
import Derived.Test.YthbicfbhghcmkaaGreatOps
import Derived.Test.YthbicfbhghcmkaaGreatRows
import Derived.Deep.QuietTactic
import Derived.BigQuiet
namespace Go.Proofs.YthbicfbhghcmkaaGreat
open Go Go.RowKit Go.SM

theorem tmod_neg {x n : Int} (hn : 1 ≤ n) (h : x.tmod n < 0) : x.tmod n + n = x % n := by
  have h2 := Int.emod_def x n
  have h3 := Int.tmod_def x n
  have h4 := Int.emod_nonneg x (show n ≠ 0 by omega)
  have h5 := Int.emod_lt_of_pos x (show 0 < n by omega)
  rw [Int.tmod_eq_emod] at h ⊢
  split at h
  · omega
  · rename_i hc
    rw [if_neg hc]
    have : (n.natAbs : Int) = n := by omega
    omega

theorem tmod_pos {x n : Int} (hn : 1 ≤ n) (h : 0 ≤ x.tmod n) : x.tmod n = x % n := by
  rw [Int.tmod_eq_emod] at h ⊢
  have h5 := Int.emod_lt_of_pos x (show 0 < n by omega)
  split at h
  · rename_i hc; rw [if_pos hc]; omega
  · rename_i hc
    exfalso
    have : (n.natAbs : Int) = n := by omega
    omega

theorem tmod_lt {x n : Int} (hn : 1 ≤ n) : x.tmod n < n ∧ -n < x.tmod n := by
  rw [Int.tmod_eq_emod]
  have h4 := Int.emod_nonneg x (show n ≠ 0 by omega)
  have h5 := Int.emod_lt_of_pos x (show 0 < n by omega)
  have : (n.natAbs : Int) = n := by omega
  split <;> omega

theorem pick_any (x n : Int) (w : World) (hn : 1 ≤ n ∧ n ≤ 4611686018427387904) :
    Calls Tryz.prog 7 #[.int .i64 x, .int .i64 n] w fun e w' => e = .returned (.int .i64 (x % n)) ∧ w = w' := by
  have h1 := tmod_lt (x := x) hn.1
  have d0 : decide (n < 1) = false := by simp; omega
  have dz : (n == 0) = false := by rw [beq_eq_false_iff_ne]; omega
  by_cases h : x.tmod n < 0
  · have HN := Lib.hid (tmod_neg hn.1 h)
    have d1 : decide (x.tmod n < 0) = true := by simpa using h
    go_enter Tryz.func7, Tryz.ntmps7
    go_wp2
    go_ret
    exact ⟨by rw [← HN.out]; rfl, rfl⟩
  · have HN := Lib.hid (tmod_pos (x := x) hn.1 (by omega))
    have d1 : decide (x.tmod n < 0) = false := by simpa using h
    go_enter Tryz.func7, Tryz.ntmps7
    go_wp2
    go_ret
    exact ⟨by rw [← HN.out]; rfl, rfl⟩

theorem rd_byte {w : World} {D : Nat → Prop} {v : Value} {l : List UInt8} (h : Rd w D 1 v l.length (u8s l)) {j : Nat} (hj : j < l.length) :
    ∃ b o c, v = .slice (some ⟨b, o, none⟩) l.length c ∧ D b ∧ b < w.heap.size ∧ w.cell? ⟨b, o + j, none⟩ = some (.int .u8 (l[j].toNat : Int)) := by
  obtain ⟨b, o, c, hv, _, hD, hb, hc⟩ := h.form (by omega)
  exact ⟨b, o, c, hv, hD, hb, hc j _ (u8s_get l j hj)⟩

set_option maxHeartbeats 1000000 in
theorem same_any {w : World} {D D' : Nat → Prop} {v v' : Value} {l l' : List UInt8} (hx : Rd w D 1 v l.length (u8s l)) (hy : Rd w D' 1 v' l'.length (u8s l')) (hlen : l.length ≤ 140737488355328) :
    Calls Tryz.prog 15 #[v, v'] w fun e w' => e = .returned (.bool (decide (l = l'))) ∧ Mod none_ w w' := by
  have HX := Lib.hid hx
  have HY := Lib.hid hy
  obtain ⟨A, c, rfl⟩ := hx.slice
  obtain ⟨A', c', rfl⟩ := hy.slice
  clear hx hy
  by_cases hl : l.length = l'.length
  · have d1 : ((l.length : Int) != (l'.length : Int)) = false := by rw [bne_eq_false_iff_eq]; omega
    have HL := Lib.hid hl
    clear hl
    go_enter Tryz.func15, Tryz.ntmps15
    go_wp2_with fail
    go_loopw [5] (fun i wr => ∃ j m : Nat, i = .int .i64 j ∧ j ≤ l.length ∧ wr = w.drewN m ∧ l.take j = l'.take j) (fun i _ => l.length - (intOf i).toNat)
    case atStart => exact ⟨0, 0, rfl, Nat.zero_le _, rfl, rfl⟩
    case round =>
      obtain ⟨j, m, rfl, hj, rfl, ht⟩ := hrel
      have HT := Lib.hid ht
      clear ht
      by_cases hlt : j < l.length
      · have hlt' : j < l'.length := by rw [← HL.out]; exact hlt
        obtain ⟨b, o, c1, he, _, _, hcx⟩ := rd_byte HX.out hlt
        obtain ⟨b', o', c2, he', _, _, hcy⟩ := rd_byte HY.out hlt'
        cases he
        cases he'
        have d2 : decide ((j : Int) < (l.length : Int)) = true := by simpa using hlt
        have d3 : decide ((j : Int) < (l'.length : Int)) = true := by simpa using hlt'
        have HS := Lib.hid (show l.take (j + 1) = l.take j ++ [l[j]] ∧ l'.take (j + 1) = l'.take j ++ [l'[j]] from ⟨List.take_succ_eq_append_getElem hlt, List.take_succ_eq_append_getElem hlt'⟩)
        by_cases e : l[j] = l'[j]
        · have d4 : ((l[j].toNat : Int) != (l'[j].toNat : Int)) = false := by rw [bne_eq_false_iff_eq, e]
          have HE := Lib.hid e
          clear e
          go_wp2_with fail
          go_quiet (fail)
          go_wp2_with fail
          go_roundw
          case rel => exact ⟨j + 1, _, by go_num, by omega, rfl, by rw [HS.out.1, HS.out.2, HT.out, HE.out]⟩
          case measure => simp [intOf]; omega
        · have d4 : ((l[j].toNat : Int) != (l'[j].toNat : Int)) = true := by
            rw [bne_iff_ne]
            intro h
            exact e (UInt8.toNat_inj.1 (by omega))
          have HE := Lib.hid (show decide (l = l') = false by
            rw [decide_eq_false_iff_not]
            rintro rfl
            exact e rfl)
          clear e
          go_wp2_with fail
          go_quiet (fail)
          go_wp2_with fail
          go_ret
          exact ⟨by rw [HE.out]; rfl, ((Mod.refl _ w).drewN _).drewN _⟩
      · have d2 : decide ((j : Int) < (l.length : Int)) = false := by simpa using hlt
        have HE := Lib.hid (show decide (l = l') = true by
          rw [decide_eq_true_iff]
          have h1 : l.take j = l := List.take_of_length_le (by omega)
          have h2 : l'.take j = l' := List.take_of_length_le (by rw [← HL.out]; omega)
          rw [← h1, HT.out, h2])
        go_wp2_with fail
        go_ret
        exact ⟨by rw [HE.out]; rfl, (Mod.refl _ _).drewN _⟩
  · have d1 : ((l.length : Int) != (l'.length : Int)) = true := by rw [bne_iff_ne]; omega
    have HE := Lib.hid (show decide (l = l') = false by
      rw [decide_eq_false_iff_not]
      rintro rfl
      exact hl rfl)
    clear hl
    go_enter Tryz.func15, Tryz.ntmps15
    go_wp2_with fail
    go_ret
    exact ⟨by rw [HE.out]; rfl, Mod.refl _ _⟩

end Go.Proofs.YthbicfbhghcmkaaGreat
