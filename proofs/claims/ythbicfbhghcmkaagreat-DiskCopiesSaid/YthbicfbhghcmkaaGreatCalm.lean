/-
  The disk's methods, of a disk that is up and not armed.
-/
import Derived.Test.YthbicfbhghcmkaaGreatDiskF
import Derived.Test.YthbicfbhghcmkaaGreatKit
import Derived.Test.YthbicfbhghcmkaaGreatMore
namespace Go.Proofs.YthbicfbhghcmkaaGreat
open Go Go.RowKit Go.SM

theorem binfo : (Tryz.prog.info? 5).map (fun i => (i.zero, i.size, i.bytes)) = some (some (.int .u8 0), 1, 1) := by kernel_rfl

theorem crashS_calm {s : DS} (h : s.armed = 0) : crashS s = s := by unfold crashS; rw [if_neg (by omega)]
theorem writeS_calm {s : DS} (h : s.armed = 0) (n : Int) (l : List UInt8) : writeS s n l = { s with fo := put s.fo n l } := by unfold writeS; exact crashS_calm (s := { s with fo := put s.fo n l }) h
theorem mayE_up {s : DS} {n : Int} (hd : s.down = false) (h : 0 ≤ n ∧ n < s.n) : mayE s n = 0 := by unfold mayE; rw [hd, if_neg (by simp), if_neg (by omega)]
theorem downE_up {s : DS} (hd : s.down = false) : downE s = 0 := by unfold downE; rw [hd]; rfl

/-- a write to a disk that is up and not armed -/
theorem write_calm {w : World} {b ms mo : Nat} {s : DS} (h : DkAt w b ms mo s) (n : Int) {D : Nat → Prop} {v : Value} {l : List UInt8} (hx : Rd w D 1 v 512 (u8s l)) (ha : s.armed = 0) (hd : s.down = false) (hn : 0 ≤ n ∧ n < s.n) :
    Calls Tryz.prog 17 #[.pointer (some ⟨b, 0, none⟩), .int .i64 n, v] w fun e w' =>
      e = .returned (.int .i64 0) ∧ DkAt w' b ms mo { s with fo := put s.fo n l } ∧ Mod (dkOwn b ms mo) w w' := by
  have hw := write_ok h n hx (mayE_up hd hn)
  rw [writeS_calm ha, downE_up (s := { s with fo := put s.fo n l }) hd] at hw
  exact hw

theorem sync_calm {w : World} {b ms mo : Nat} {s : DS} (h : DkAt w b ms mo s) (ha : s.armed = 0) (hd : s.down = false) :
    Calls Tryz.prog 19 #[.pointer (some ⟨b, 0, none⟩)] w fun e w' => e = .returned (.int .i64 0) ∧ DkAt w' b ms mo (flushS s) ∧ Mod (dkOwn b ms mo) w w' := by
  have hw := sync_ok h (mayE_up hd (by have := h.n1; omega)) (by rw [crashS_calm ha]; exact hd)
  rw [crashS_calm ha] at hw
  exact hw

/-- a disk of the call's own is turned: nothing that was there is -/
theorem modOwn {w0 w w' : World} {b ms mo : Nat} (h : Mod none_ w0 w) (hm : Mod (dkOwn b ms mo) w w') (hb : w0.heap.size ≤ b ∧ w0.heap.size ≤ ms ∧ w0.heap.size ≤ mo) : Mod none_ w0 w' :=
  h.trans hm (fun r e hr => by rcases e with rfl | rfl | rfl <;> omega)

/-- a read of a sector that is known -/
theorem read_is {w : World} {b ms mo : Nat} {s : DS} (h : DkAt w b ms mo s) (n : Int) {l : List UInt8} (hl : latS s n = l) (hd : s.down = false) (hn : 0 ≤ n ∧ n < s.n) :
    Calls Tryz.prog 13 #[.pointer (some ⟨b, 0, none⟩), .int .i64 n] w fun e w' =>
      ∃ v, e = .returned (.tuple #[v, .int .i64 0]) ∧ OwnS w' (Fr w) 5 1 v 512 (u8s l) ∧ Mod none_ w w' := by
  subst hl
  exact read_ok h n (mayE_up hd hn)

end Go.Proofs.YthbicfbhghcmkaaGreat
