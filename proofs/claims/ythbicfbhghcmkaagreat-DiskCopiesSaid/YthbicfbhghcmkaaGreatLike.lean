/-
  like: two disks in one state.
-/
import Derived.Test.YthbicfbhghcmkaaGreatBoth
import Derived.Test.YthbicfbhghcmkaaGreatArgs
import Derived.Handy
namespace Go.Proofs.YthbicfbhghcmkaaGreat
open Go Go.RowKit Go.SM

set_option maxHeartbeats 4000000 in
theorem like_any {w0 w : World} {b ms mo r : Nat} {X : XS} {D : Nat → Prop} {s : DS} (h : Both w0 w b ms mo X r s) {v : Value} {xs : List DoD} (hx : RdDos w D v xs) (hn : xs.length ≤ 1000) :
    Calls Tryz.prog 11 #[.pointer (some ⟨b, 0, none⟩), .pointer (some ⟨r, 0, none⟩), v] w fun e w' => e = .returned (.bool true) ∧ Both w0 w' b ms mo X r s ∧ Mod none_ w w' := by
  obtain ⟨A, c, hv, hlc⟩ := hx.slice
  subst hv
  have H := Lib.hid h
  have HX := Lib.hid hx
  have HN := Lib.hid hn
  clear h hx hn
  go_enter Tryz.func11, Tryz.ntmps11
  go_wp2_with fail
  refine (down_any H.out.live.at_).mono ?_
  rintro e w' ⟨rfl, rfl⟩
  go_wp2_with fail
  refine (rf_down H.out.ref).mono ?_
  rintro e w' ⟨rfl, rfl⟩
  obtain ⟨dn, hdn⟩ : ∃ dn, s.down = dn := ⟨_, rfl⟩
  rw [hdn]
  clear hdn
  have dd : (dn != dn) = false := by simp
  go_wp2_with fail
  refine (sectors_any H.out.live.at_).mono ?_
  rintro e w' ⟨rfl, rfl⟩
  go_wp2_with fail
  refine (rf_sectors H.out.ref).mono ?_
  rintro e w' ⟨rfl, rfl⟩
  obtain ⟨sn, hsn⟩ : ∃ sn, s.n = sn := ⟨_, rfl⟩
  rw [hsn]
  clear hsn
  have ds : (sn != sn) = false := by simp
  go_wp2_with fail
  go_loopw [7] (fun i wr => ∃ j : Nat, i = .int .i64 j ∧ j ≤ xs.length ∧ Both w0 wr b ms mo X r s ∧ Mod none_ w wr) (fun i _ => xs.length - (intOf i).toNat)
  case atStart => exact ⟨0, rfl, Nat.zero_le _, H.out, Mod.refl _ _⟩
  case round =>
    obtain ⟨j, rfl, hj, hb, hm⟩ := hrel
    have H2 := Lib.hid hb
    have HM2 := Lib.hid hm
    clear hb hm
    by_cases hlt : j < xs.length
    · obtain ⟨g, o, c', he, _, _, hat, _⟩ := (HX.out.keep HM2.out (fun _ _ _ e => e)).at_ hlt
      simp only [Value.slice.injEq] at he
      obtain ⟨rfl, hne, rfl⟩ := he
      clear hne
      have HAT := Lib.hid hat
      have q1 := hat.2.1
      clear hat
      generalize xs[j] = x at *
      have d1 : decide ((j : Int) < (xs.length : Int)) = true := by simpa using hlt
      have e1 : (j : Int) < (xs.length : Int) := by omega
      have hj1 : j < 1000 := by have := HN.out; omega
      go_wp2_with fail
      refine (read_t H2.out.live.at_ x.sector).mono ?_
      rintro e w3 ⟨v3, rfl, ho3, hm3⟩
      have H3 := Lib.hid (H2.out.keep hm3)
      have HM3 := Lib.hid (HM2.out.trans' hm3)
      have HO3 := Lib.hid ho3.rd
      have q1' := hm3.cell_eq q1 (fun e => e)
      clear hm3 ho3 q1
      go_wp2_with fail
      refine (rf_read H3.out.ref x.sector).mono ?_
      rintro e w4 ⟨v4, rfl, ho4, hm4⟩
      have H4 := Lib.hid (H3.out.keep hm4)
      have HM4 := Lib.hid (HM3.out.trans' hm4)
      have HO4 := Lib.hid (HO3.out.keep hm4 (fun _ _ _ e => e))
      have HP4 := Lib.hid ho4.rd
      clear hm4 ho4 q1'
      have hlen : (readT s x.sector).2.length ≤ 140737488355328 := by
        have := H2.out.len x.sector
        unfold readT
        split <;> simp <;> omega
      generalize (readT s x.sector).1 = E at *
      generalize (readT s x.sector).2 = L at *
      have dE : (E != E) = false := by simp
      go_wp2_with fail
      refine (same_any HO4.out HP4.out hlen).mono ?_
      rintro e w5 ⟨rfl, hm5⟩
      rw [show decide (L = L) = true from decide_eq_true rfl]
      have H5 := Lib.hid (H4.out.keep hm5)
      have HM5 := Lib.hid (HM4.out.trans' hm5)
      clear hm5
      go_wp2_with fail
      exact ⟨⟨j + 1, by go_num, by omega, H5.out, HM5.out⟩, by simp [intOf] <;> omega⟩
    · have d1 : decide ((j : Int) < (xs.length : Int)) = false := by simpa using hlt
      have e1 : ¬ (j : Int) < (xs.length : Int) := by omega
      go_wp2_with fail
      go_returns
      exact ⟨rfl, H2.out, HM2.out⟩

end Go.Proofs.YthbicfbhghcmkaaGreat
