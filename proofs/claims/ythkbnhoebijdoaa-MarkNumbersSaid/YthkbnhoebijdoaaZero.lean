/-
  No disk, and one that nobody made.
-/
import Derived.Test.YthkbnhoebijdoaaLive
namespace Go.Proofs.Ythkbnhoebijdoaa
open Go Go.RowKit Go.SM

def zCells (a : Int) : Array Value := #[.int .i64 0, .map none, .map none, .int .i64 a, .bool false]
/-- a disk that nobody made -/
def ZeroAt (w : World) (b : Nat) (a : Int) : Prop := w.heap[b]? = some (.cells (zCells a) 31 (0, 0))

section
variable {w : World} {b : Nat} {a : Int}
theorem ZeroAt.c0 (h : ZeroAt w b a) : w.cell? ⟨b, 0, none⟩ = some (.int .i64 0) := by rw [cell_of_row w b 0 _ _ _ h]; rfl
theorem ZeroAt.c3 (h : ZeroAt w b a) : w.cell? ⟨b, 3, none⟩ = some (.int .i64 a) := by rw [cell_of_row w b 3 _ _ _ h]; rfl
theorem ZeroAt.c4 (h : ZeroAt w b a) : w.cell? ⟨b, 4, none⟩ = some (.bool false) := by rw [cell_of_row w b 4 _ _ _ h]; rfl
theorem ZeroAt.fz (h : ZeroAt w b a) (i : Nat) : w.frozen? ⟨b, i, none⟩ = false := frozen_of_row w b i _ _ h

theorem may_zero (h : ZeroAt w b a) (n : Int) : Calls Try.prog 40 #[.pointer (some ⟨b, 0, none⟩), .int .i64 n] w fun e w' => e = .returned (.int .i64 1) ∧ w = w' := by
  have h0 := h.c0
  clear h
  go_enter Try.func40, Try.ntmps40
  go_wp2
  go_ret
  exact ⟨rfl, rfl⟩

theorem sectors_zero (h : ZeroAt w b a) : Calls Try.prog 34 #[.pointer (some ⟨b, 0, none⟩)] w fun e w' => e = .returned (.int .i64 0) ∧ w = w' := by
  have h0 := h.c0
  clear h
  go_enter Try.func34, Try.ntmps34
  go_wp2
  go_ret
  exact ⟨rfl, rfl⟩


theorem sync_nil0 (w : World) : Calls Try.prog 33 #[.pointer none] w fun e w' => e = .returned (.int .i64 1) ∧ w = w' := by
  go_enter Try.func33, Try.ntmps33
  go_wp2_with ((with_reducible refine (may_nil _ _).mono ?_); rintro e w' ⟨rfl, rfl⟩)
  go_ret
  exact ⟨rfl, rfl⟩

theorem sync_zero (h : ZeroAt w b a) : Calls Try.prog 33 #[.pointer (some ⟨b, 0, none⟩)] w fun e w' => e = .returned (.int .i64 1) ∧ w = w' := by
  have H := Lib.hid h
  clear h
  go_enter Try.func33, Try.ntmps33
  go_wp2_with ((with_reducible refine (may_zero H.out _).mono ?_); rintro e w' ⟨rfl, rfl⟩)
  go_ret
  exact ⟨rfl, rfl⟩

theorem read_zero (h : ZeroAt w b a) (n : Int) : Calls Try.prog 22 #[.pointer (some ⟨b, 0, none⟩), .int .i64 n] w fun e w' => e = .returned (.tuple #[.slice none 0 0, .int .i64 1]) ∧ w = w' := by
  have H := Lib.hid h
  clear h
  go_enter Try.func22, Try.ntmps22
  go_wp2_with ((with_reducible refine (may_zero H.out _).mono ?_); rintro e w' ⟨rfl, rfl⟩)
  go_ret2
  exact ⟨rfl, rfl⟩

theorem write_zero (h : ZeroAt w b a) (n : Int) (v : Value) : Calls Try.prog 25 #[.pointer (some ⟨b, 0, none⟩), .int .i64 n, v] w fun e w' => e = .returned (.int .i64 1) ∧ w = w' := by
  have H := Lib.hid h
  clear h
  go_enter Try.func25, Try.ntmps25
  go_wp2_with ((with_reducible refine (may_zero H.out _).mono ?_); rintro e w' ⟨rfl, rfl⟩)
  go_ret
  exact ⟨rfl, rfl⟩

theorem wake_zero (h : ZeroAt w b a) (v : Value) : Calls Try.prog 20 #[.pointer (some ⟨b, 0, none⟩), v] w fun e w' => e = .returned (.tuple #[]) ∧ w = w' := by
  have h0 := h.c0
  clear h
  go_enter Try.func20, Try.ntmps20
  go_wp2
  refine bodyPost_ret (results_none rfl _ _ _) rfl ?_
  exact ⟨rfl, rfl⟩

theorem arm_zero (h : ZeroAt w b a) (n : Int) : Calls Try.prog 26 #[.pointer (some ⟨b, 0, none⟩), .int .i64 n] w fun e w' => e = .returned (.tuple #[]) ∧ (∃ a', ZeroAt w' b a') ∧ Mod (· = b) w w' := by
  have h4 := h.c4
  have h3 := h.c3
  have f3 := h.fz 3
  have hz : ∀ x, ZeroAt (w.setCell ⟨b, 3, none⟩ (.int .i64 x)) b x := fun x => by
    have := heap_setCell_same w b 3 _ _ (.int .i64 x) h
    exact this
  have hm2 : ∀ x, Mod (· = b) w (w.setCell ⟨b, 3, none⟩ (.int .i64 x)) := fun x => (Mod.refl (· = b) w).setCell (p := ⟨b, 3, none⟩) (.inl rfl) _
  have HZ := Lib.hid hz
  have HM := Lib.hid hm2
  clear hz hm2 h
  go_enter Try.func26, Try.ntmps26
  go_wp2
  · go_end0
    exact ⟨rfl, ⟨_, HZ.out _⟩, HM.out _⟩
  · go_end0
    exact ⟨rfl, ⟨_, HZ.out _⟩, HM.out _⟩
end

/-- no disk, or one that nobody made -/
def Nought (w : World) (p : Value) : Prop := p = .pointer none ∨ ∃ b a, p = .pointer (some ⟨b, 0, none⟩) ∧ ZeroAt w b a
/-- its block -/
def noughtOwn (p : Value) : Nat → Prop := fun r => p = .pointer (some ⟨r, 0, none⟩)

section
variable {w : World} {p : Value}
theorem Nought.keep {w' : World} {S : Nat → Prop} (h : Nought w p) (hm : Mod S w w') (hn : ∀ r, noughtOwn p r → ¬ S r) : Nought w' p := by
  rcases h with h | ⟨b, a, rfl, hz⟩
  · exact .inl h
  · exact .inr ⟨b, a, rfl, hm.get hz (hn b rfl)⟩
theorem Nought.own_lt (h : Nought w p) : ∀ r, noughtOwn p r → r < w.heap.size := by
  intro r hr
  rcases h with h | ⟨b, a, rfl, hz⟩
  · subst h; cases hr
  · cases hr; exact blk_lt hz

theorem no_read (h : Nought w p) (n : Int) : Calls Try.prog 22 #[p, .int .i64 n] w fun e w' => e = .returned (.tuple #[.slice none 0 0, .int .i64 1]) ∧ w = w' := by
  rcases h with rfl | ⟨b, a, rfl, hz⟩
  · exact read_nil n w
  · exact read_zero hz n
theorem no_write (h : Nought w p) (n : Int) (v : Value) : Calls Try.prog 25 #[p, .int .i64 n, v] w fun e w' => e = .returned (.int .i64 1) ∧ w = w' := by
  rcases h with rfl | ⟨b, a, rfl, hz⟩
  · exact write_nil n v w
  · exact write_zero hz n v
theorem no_sync (h : Nought w p) : Calls Try.prog 33 #[p] w fun e w' => e = .returned (.int .i64 1) ∧ w = w' := by
  rcases h with rfl | ⟨b, a, rfl, hz⟩
  · exact sync_nil0 w
  · exact sync_zero hz
theorem no_sectors (h : Nought w p) : Calls Try.prog 34 #[p] w fun e w' => e = .returned (.int .i64 0) ∧ w = w' := by
  rcases h with rfl | ⟨b, a, rfl, hz⟩
  · exact sectors_nil w
  · exact sectors_zero hz
theorem no_wake (h : Nought w p) (v : Value) : Calls Try.prog 20 #[p, v] w fun e w' => e = .returned (.tuple #[]) ∧ w = w' := by
  rcases h with rfl | ⟨b, a, rfl, hz⟩
  · exact wake_nil v w
  · exact wake_zero hz v
theorem no_arm (h : Nought w p) (n : Int) : Calls Try.prog 26 #[p, .int .i64 n] w fun e w' => e = .returned (.tuple #[]) ∧ Nought w' p ∧ Mod (noughtOwn p) w w' := by
  rcases h with rfl | ⟨b, a, rfl, hz⟩
  · exact (arm_nil n w).mono fun e w' ⟨he, hw⟩ => ⟨he, .inl rfl, hw ▸ Mod.refl _ _⟩
  · exact (arm_zero hz n).mono fun e w' ⟨he, ⟨a', h1⟩, hm⟩ => ⟨he, .inr ⟨b, a', rfl, h1⟩, hm.mono fun r _ e => by subst e; rfl⟩
end

end Go.Proofs.Ythkbnhoebijdoaa
