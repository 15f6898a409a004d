/-
  The laws' own small functions: full.
-/
import Derived.Test.YthbicfbhghcmkaaGreatLive
namespace Go.Proofs.YthbicfbhghcmkaaGreat
open Go Go.RowKit Go.SM

/-- a sector of a byte, and another one in each 64th of it -/
def fullB (b : UInt8) : List UInt8 := (List.range 512).map fun i => b + UInt8.ofNat (i / 64)
theorem fullB_length (b : UInt8) : (fullB b).length = 512 := by unfold fullB; rw [List.length_map, List.length_range]
theorem fullB_get (b : UInt8) (i : Nat) (h : i < 512) : (fullB b)[i]? = some (b + UInt8.ofNat (i / 64)) := by
  unfold fullB
  rw [List.getElem?_map, List.getElem?_range h]
  rfl

def FullPost (b : UInt8) (w : World) (e : Ending) (w' : World) : Prop :=
  ∃ v, e = .returned v ∧ OwnS w' (Fr w) 5 1 v 512 (u8s (fullB b)) ∧ Mod none_ w w'

set_option maxHeartbeats 1000000 in
set_option maxRecDepth 100000 in
theorem full_any (b : UInt8) (w : World) : Calls Tryz.prog 18 #[.int .u8 (b.toNat : Int)] w (FullPost b w) := by
  obtain ⟨x, hx⟩ : ∃ x : Int, x = (b.toNat : Int) := ⟨_, rfl⟩
  have hx1 : 0 ≤ x ∧ x < 256 := by have := b.toNat_lt; omega
  rw [← hx]
  have HX := Lib.hid hx
  clear hx
  go_enter Tryz.func18, Tryz.ntmps18
  go_wp2_with (with_reducible refine at_ (o := ⟨some 5, _, _, _, _, _⟩) ?_)
  refine un (wpList_make rfl 37 _ _ rfl 5 (.int .u8 0) 1 Tryz.underlying37 binfo rfl .i64 .i64 512 512 rfl rfl (Nat.le_refl _) (by omega) (by omega) ?_)
  intro w1 g hb1 hm1 hs1
  have HB1 := Lib.hid hb1
  have HM1 := Lib.hid hm1
  have HG := Lib.hid hs1
  clear hb1 hm1 hs1
  go_frame
  go_wp2_with fail
  go_loopw [4] (fun i wr => ∃ j : Nat, i = .int .i64 j ∧ j ≤ 512 ∧ wr.heap[g]? = some (.cells (u8s ((fullB b).take j) ++ List.replicate (512 - j) (Value.int .u8 0)).toArray 5 (0, 0)) ∧ Mod none_ w wr) (fun i _ => 512 - (intOf i).toNat)
  case atStart => exact ⟨0, rfl, Nat.zero_le _, HB1.out, HM1.out⟩
  case round =>
    obtain ⟨j, rfl, hj, hb, hm⟩ := hrel
    have HB := Lib.hid hb
    have HM := Lib.hid hm
    clear hb hm HB1 HM1
    by_cases hlt : j < 512
    · have hc : (wr.cell? ⟨g, j, none⟩).isSome = true := by
        rw [cell_of_row wr g j _ _ _ HB.out]
        simp [fullB_length]
        omega
      obtain ⟨u, hu⟩ := Option.isSome_iff_exists.1 hc
      have hf : wr.frozen? ⟨g, j, none⟩ = false := frozen_of_row wr g j _ _ HB.out
      clear hc
      go_wp2_with fail
      have hlen : (u8s ((fullB b).take j)).length = j := by rw [length_u8s, List.length_take, fullB_length]; omega
      have hb' := heap_setCell_same wr g j _ _ (Value.int .u8 ((x + (j : Int) / 64) % 256)) HB.out
      rw [fill_step hlen hlt] at hb'
      have ht : (fullB b).take (j + 1) = (fullB b).take j ++ [b + UInt8.ofNat (j / 64)] := by
        rw [List.take_add_one, fullB_get b j hlt]; rfl
      have hv : SM.u8 (b + UInt8.ofNat (j / 64)) = Value.int .u8 ((x + (j : Int) / 64) % 256) := by
        unfold SM.u8
        rw [byte_add b j, HX.out]
      refine ⟨⟨j + 1, by go_num, by omega, ?_, HM.out.setCell (p := ⟨g, j, none⟩) (.inr HG.out) _⟩, by simp [intOf]; omega⟩
      rw [ht, u8s_append, show u8s [b + UInt8.ofNat (j / 64)] = [Value.int .u8 ((x + (j : Int) / 64) % 256)] by rw [← hv]; rfl]
      exact hb'
    · obtain rfl : j = 512 := by omega
      go_wp2_with fail
      go_ret
      have h1 : (fullB b).take 512 = fullB b := List.take_of_length_le (by rw [fullB_length]; omega)
      have hb := HB.out
      rw [h1] at hb
      simp only [Nat.sub_self, List.replicate_zero, List.append_nil] at hb
      exact ⟨_, rfl, OwnS.made hb HG.out 512 (by unfold maxLen; omega) (by simp [fullB_length]), HM.out⟩

section
variable {w0 w : World} {b ms mo : Nat} {s : DS}
theorem lv_full (h : Live w0 w b ms mo s) (c : UInt8) :
    Calls Tryz.prog 18 #[.int .u8 (c.toNat : Int)] w fun e w' => ∃ v, e = .returned v ∧ Rd w' (Fr w) 1 v 512 (u8s (fullB c)) ∧ Live w0 w' b ms mo s ∧ Mod (dkOwn b ms mo) w w' :=
  (full_any c w).mono fun _ _ ⟨v, he, ho, hm⟩ => ⟨v, he, ho.rd, h.keep hm, hm.mono fun _ _ e => e.elim⟩
end

end Go.Proofs.YthbicfbhghcmkaaGreat
