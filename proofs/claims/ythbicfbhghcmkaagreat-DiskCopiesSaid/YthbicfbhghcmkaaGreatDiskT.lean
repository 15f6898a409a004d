/-
  The disk's methods, told whole: whatever the disk's state, and whatever is handed in.
-/
import Derived.Test.YthbicfbhghcmkaaGreatCalm
namespace Go.Proofs.YthbicfbhghcmkaaGreat
open Go Go.RowKit Go.SM

def syncT (s : DS) : Int × DS := if mayE s 0 ≠ 0 then (mayE s 0, s) else (downE (crashS s), syncS s)
def writeT (s : DS) (n : Int) (l : List UInt8) : Int × DS := if mayE s n ≠ 0 then (mayE s n, s) else if l.length ≠ 512 then (2, s) else (downE (writeS s n l), writeS s n l)
def readT (s : DS) (n : Int) : Int × List UInt8 := if mayE s n ≠ 0 then (mayE s n, []) else (0, latS s n)

theorem sync_t {w : World} {b ms mo : Nat} {s : DS} (h : DkAt w b ms mo s) :
    Calls Tryz.prog 19 #[.pointer (some ⟨b, 0, none⟩)] w fun e w' => e = .returned (.int .i64 (syncT s).1) ∧ DkAt w' b ms mo (syncT s).2 ∧ Mod (dkOwn b ms mo) w w' := by
  unfold syncT
  by_cases hm : mayE s 0 = 0
  · rw [if_neg (by simpa using hm)]
    unfold syncS downE
    cases hd : (crashS s).down with
    | true =>
      simp only [if_true]
      exact sync_down h hm hd
    | false =>
      simp only [Bool.false_eq_true, if_false]
      exact sync_ok h hm hd
  · rw [if_pos hm]
    exact (sync_no h hm).mono fun e w' ⟨he, hw⟩ => ⟨he, by rw [← hw]; exact h, by rw [← hw]; exact Mod.refl _ _⟩

theorem write_t {w : World} {b ms mo : Nat} {s : DS} (h : DkAt w b ms mo s) (n : Int) {D : Nat → Prop} {v : Value} {l : List UInt8} (hx : Rd w D 1 v l.length (u8s l)) :
    Calls Tryz.prog 17 #[.pointer (some ⟨b, 0, none⟩), .int .i64 n, v] w fun e w' => e = .returned (.int .i64 (writeT s n l).1) ∧ DkAt w' b ms mo (writeT s n l).2 ∧ Mod (dkOwn b ms mo) w w' := by
  unfold writeT
  by_cases hm : mayE s n = 0
  · rw [if_neg (by simpa using hm)]
    by_cases hl : l.length = 512
    · rw [if_neg (by simpa using hl)]
      rw [hl] at hx
      exact write_ok h n hx hm
    · rw [if_pos hl]
      obtain ⟨A, c, rfl⟩ := hx.slice
      exact (write_arg h n A _ c hm hl).mono fun e w' ⟨he, hw⟩ => ⟨he, by rw [← hw]; exact h, by rw [← hw]; exact Mod.refl _ _⟩
  · rw [if_pos hm]
    exact (write_no h n v hm).mono fun e w' ⟨he, hw⟩ => ⟨he, by rw [← hw]; exact h, by rw [← hw]; exact Mod.refl _ _⟩

theorem read_t {w : World} {b ms mo : Nat} {s : DS} (h : DkAt w b ms mo s) (n : Int) :
    Calls Tryz.prog 13 #[.pointer (some ⟨b, 0, none⟩), .int .i64 n] w fun e w' =>
      ∃ v, e = .returned (.tuple #[v, .int .i64 (readT s n).1]) ∧ OwnS w' (Fr w) 5 1 v (readT s n).2.length (u8s (readT s n).2) ∧ Mod none_ w w' := by
  unfold readT
  by_cases hm : mayE s n = 0
  · rw [if_neg (by simpa using hm)]
    refine (read_ok h n hm).mono fun e w' ⟨v, he, ho, hm'⟩ => ⟨v, he, ?_, hm'⟩
    rw [latS_len h n]
    exact ho
  · rw [if_pos hm]
    exact (read_no h n hm).mono fun e w' ⟨he, hw⟩ => ⟨_, he, OwnS.nil_ _ _ _ _, by rw [← hw]; exact Mod.refl _ _⟩

end Go.Proofs.YthbicfbhghcmkaaGreat
