/-
  The disk's methods, one by one: Write.
-/
import Derived.Test.YthbicfbhghcmkaaGreatDiskC
namespace Go.Proofs.YthbicfbhghcmkaaGreat
open Go Go.RowKit Go.SM

theorem write_nil (n : Int) (v : Value) (w : World) : Calls Tryz.prog 17 #[.pointer none, .int .i64 n, v] w fun e w' => e = .returned (.int .i64 1) ∧ w = w' := by
  go_enter Tryz.func17, Tryz.ntmps17
  go_wp2_with ((with_reducible refine (may_nil _ _).mono ?_); rintro e w' ⟨rfl, rfl⟩)
  go_ret
  exact ⟨rfl, rfl⟩

theorem write_no {w : World} {b ms mo : Nat} {s : DS} (h : DkAt w b ms mo s) (n : Int) (v : Value) (hn : mayE s n ≠ 0) :
    Calls Tryz.prog 17 #[.pointer (some ⟨b, 0, none⟩), .int .i64 n, v] w fun e w' => e = .returned (.int .i64 (mayE s n)) ∧ w = w' := by
  have d1 : (mayE s n != 0) = true := by simpa using hn
  have HD := Lib.hid h
  clear h hn
  go_enter Tryz.func17, Tryz.ntmps17
  go_wp2_with ((with_reducible refine (may_any HD.out _).mono ?_); rintro e w' ⟨rfl, rfl⟩)
  go_ret
  exact ⟨rfl, rfl⟩

theorem write_arg {w : World} {b ms mo : Nat} {s : DS} (h : DkAt w b ms mo s) (n : Int) (A : Option Addr) (m c : Nat) (hn : mayE s n = 0) (hm : m ≠ 512) :
    Calls Tryz.prog 17 #[.pointer (some ⟨b, 0, none⟩), .int .i64 n, .slice A m c] w fun e w' => e = .returned (.int .i64 2) ∧ w = w' := by
  have d1 : (mayE s n != 0) = false := by simpa using hn
  have d2 : (((m : Nat) : Int) != 512) = true := by rw [bne_iff_ne]; omega
  have HD := Lib.hid h
  clear h hn hm
  go_enter Tryz.func17, Tryz.ntmps17
  go_wp2_with ((with_reducible refine (may_any HD.out _).mono ?_); rintro e w' ⟨rfl, rfl⟩)
  go_ret
  exact ⟨rfl, rfl⟩

/-- a disk that is written -/
def writeS (s : DS) (n : Int) (l : List UInt8) : DS := crashS { s with fo := put s.fo n l }
/-- .. and what it says -/
def downE (s : DS) : Int := if s.down then 8 else 0

set_option maxRecDepth 100000 in
theorem write_ok {w : World} {b ms mo : Nat} {s : DS} (h : DkAt w b ms mo s) (n : Int) {D : Nat → Prop} {v : Value} {l : List UInt8} (hx : Rd w D 1 v 512 (u8s l)) (hn : mayE s n = 0) :
    Calls Tryz.prog 17 #[.pointer (some ⟨b, 0, none⟩), .int .i64 n, v] w fun e w' =>
      e = .returned (.int .i64 (downE (writeS s n l))) ∧ DkAt w' b ms mo (writeS s n l) ∧ Mod (dkOwn b ms mo) w w' := by
  obtain ⟨g, o, c, rfl, hc, _, _, hcell⟩ := hx.form (by omega)
  have HLen := Lib.hid (show l.length = 512 by have := hx.len; simpa using this)
  have d1 : (mayE s n != 0) = false := by simpa using hn
  have h2 := h.c2
  have HD := Lib.hid h
  have HC := Lib.hid hcell
  clear h hn hx hcell
  go_enter Tryz.func17, Tryz.ntmps17
  go_wp2_with ((with_reducible refine (may_any HD.out _).mono ?_); rintro e w' ⟨rfl, rfl⟩)
  refine wp_region_still_tail 8 (by kernel_rfl) (by kernel_rfl) ?_
  simp only [List.take_succ_cons, List.take_zero, List.drop_succ_cons, List.drop_zero]
  iterate 6 still_step
  refine wpStill_arr rfl 64 _ rfl _ 512 _ 512 5 rfl Tryz.underlying64 (Nat.le_refl _) ?_
  refine wpStill_load rfl 64 _ rfl g o rfl (u8s l) _ Tryz.underlying64 rfl HC.out (by rw [zinfo]; simp [HLen.out]) ?_
  refine wpStill_nil ?_
  refine wpList_update rfl 46 _ _ _ rfl 3 64 .i64 Tryz.underlying46 Tryz.underlying3 mo s.fo n l HLen.out rfl rfl rfl (show MapIs w.drew mo s.fo from HD.out.opens) ?_
  intro w1 hmap hm1
  have HM1 := Lib.hid (show Mod (· = mo) w w1 from ⟨hm1.os, hm1.tape, hm1.output, hm1.size, hm1.block⟩)
  have HD1 := Lib.hid (show DkAt w1 b ms mo { s with fo := put s.fo n l } from ⟨HM1.out.get HD.out.cells HD.out.ne.2.2, HD.out.safe.keep HM1.out HD.out.ne.1, hmap, HD.out.ne, HD.out.n1, HD.out.arm⟩)
  have hdown := HD1.out.c4
  clear hmap hm1 h2 hdown
  go_frame
  cases hw : (writeS s n l).down with
  | true =>
    have HW := Lib.hid hw
    clear hw
    go_wp2_with ((with_reducible refine (crash_any HD1.out).mono ?_); rintro e w2 ⟨rfl, hd2, hm2, _⟩; have HD2 := Lib.hid hd2; have HM2 := Lib.hid hm2; clear hd2 hm2; rw [show (crashS { s with fo := put s.fo n l }).down = true from HW.out])
    go_ret
    exact ⟨by rw [show downE (writeS s n l) = 8 from by unfold downE; rw [HW.out]; rfl]; rfl, HD2.out, (HM1.out.mono fun r _ e => .inr (.inr e)).trans' (HM2.out.mono fun r _ e => .inl e)⟩
  | false =>
    have HW := Lib.hid hw
    clear hw
    go_wp2_with ((with_reducible refine (crash_any HD1.out).mono ?_); rintro e w2 ⟨rfl, hd2, hm2, _⟩; have HD2 := Lib.hid hd2; have HM2 := Lib.hid hm2; clear hd2 hm2; rw [show (crashS { s with fo := put s.fo n l }).down = false from HW.out])
    go_ret
    exact ⟨by rw [show downE (writeS s n l) = 0 from by unfold downE; rw [HW.out]; rfl]; rfl, HD2.out, (HM1.out.mono fun r _ e => .inr (.inr e)).trans' (HM2.out.mono fun r _ e => .inl e)⟩

end Go.Proofs.YthbicfbhghcmkaaGreat
