/-
  storemankit.TurnBytes.
-/
import Derived.Test.YthbicfbhghcmkaaGreatLent
import Derived.Test.YthbicfbhghcmkaaGreatOpen
import Derived.OpenShut
namespace Go.Proofs.YthbicfbhghcmkaaGreat
open Go Go.RowKit Go.SM

set_option maxHeartbeats 2000000 in
theorem turn_bytes {w : World} {g c : Nat} {l : List UInt8} (h : OwnS w (· = g) 5 1 (.slice (some ⟨g, 0, none⟩) l.length c) l.length (u8s l)) (hl : l.length ≤ 70368744177664) :
    Calls Tryz.prog 14 #[.slice (some ⟨g, 0, none⟩) l.length c] w fun e w' => e = .returned (.tuple #[]) ∧ (∃ l' : List UInt8, OwnS w' (· = g) 5 1 (.slice (some ⟨g, 0, none⟩) l.length c) l.length (u8s l')) ∧ Mod (· = g) w w' := by
  have H := Lib.hid h
  have HL := Lib.hid hl
  clear h hl
  go_enter Tryz.func14, Tryz.ntmps14
  go_wp2_with fail
  go_loopw [2] (fun s wr => ∃ (j : Nat) (zs : List UInt8), s = .int .i64 j ∧ j ≤ l.length ∧ OwnS wr (· = g) 5 1 (.slice (some ⟨g, 0, none⟩) l.length c) l.length (u8s zs) ∧ Mod (· = g) w wr) (fun s _ => l.length - (intOf s).toNat)
  case atStart => exact ⟨0, l, rfl, Nat.zero_le _, H.out, Mod.refl _ _⟩
  case round =>
    obtain ⟨j, zs, rfl, hj, ho, hm⟩ := hrel
    have HO := Lib.hid ho
    have HM := Lib.hid hm
    have hzl : zs.length = l.length := by have := ho.row.1; simpa using this
    have HZ := Lib.hid hzl
    clear ho hm hzl
    by_cases hlt : j < l.length
    · have d1 : decide ((j : Int) < (l.length : Int)) = true := by simpa using hlt
      have e1 : (j : Int) < (l.length : Int) := by omega
      have hjz : j < zs.length := by rw [HZ.out]; exact hlt
      have hjb : j < 70368744177665 := by have := HL.out; omega
      obtain ⟨cur, hcur, _⟩ := HO.out.blk
      have f := frozen_of_row wr g j _ _ hcur
      have q := HO.out.cell (u8s_get zs j hjz)
      generalize zs[j] = x at *
      obtain ⟨y, hy⟩ := byte_of_wf (wf_bits BinOp.xor .u8 (x.toNat : Int) 255)
      have HSet := Lib.hid (show OwnS (wr.setCell ⟨g, j, none⟩ (.int .u8 (bits BinOp.xor .u8 (x.toNat : Int) 255))) (· = g) 5 1 (.slice (some ⟨g, 0, none⟩) l.length c) l.length (u8s (zs.set j y)) by
        rw [hy]
        have h := HO.out.set (i := j) (.int .u8 (y.toNat : Int))
        rwa [show (u8s zs).set j (.int .u8 (y.toNat : Int)) = u8s (zs.set j y) by simp [u8s, List.map_set, SM.u8]] at h)
      have HM2 := Lib.hid (show Mod (· = g) w (wr.setCell ⟨g, j, none⟩ (.int .u8 (bits BinOp.xor .u8 (x.toNat : Int) 255))) from HM.out.setCell (p := ⟨g, j, none⟩) (.inl rfl) _)
      clear hcur hy
      rw [show SM.u8 x = .int .u8 (x.toNat : Int) from rfl] at q
      go_wp2_with fail
      exact ⟨⟨j + 1, _, by go_num, by omega, HSet.out, HM2.out⟩, by simp [intOf] <;> omega⟩
    · have d1 : decide ((j : Int) < (l.length : Int)) = false := by simpa using hlt
      have e1 : ¬ (j : Int) < (l.length : Int) := by omega
      go_wp2_with fail
      go_end0
      exact ⟨rfl, ⟨_, HO.out⟩, HM.out⟩

end Go.Proofs.YthbicfbhghcmkaaGreat
