/-
  Masters on a disk that is up and not armed (no program's step in sight).
-/
import Derived.Test.YthkbnhoebijdoaaMarkE
namespace Go.Proofs.Ythkbnhoebijdoaa
open Go Go.RowKit Go.SM

structure CalmD (s : DS) : Prop where
  n : 40 ≤ s.n
  a : s.armed = 0
  d : s.down = false

theorem CalmD.may {s : DS} (h : CalmD s) {k : Int} (hk : 0 ≤ k ∧ k < s.n) : mayE s k = 0 := mayE_up h.d hk
theorem CalmD.put_ {s : DS} (h : CalmD s) (k : Int) (l : List UInt8) : CalmD { s with fo := put s.fo k l } := ⟨h.n, h.a, h.d⟩
theorem CalmD.flush {s : DS} (h : CalmD s) : CalmD (flushS s) := ⟨h.n, h.a, h.d⟩
theorem latS_put (s : DS) (a : Int) (l : List UInt8) (k : Int) : latS { s with fo := put s.fo a l } k = if k = a then l else latS s k := by
  unfold latS put
  by_cases e : k = a
  · simp only [if_pos e]; exact Option.getD_some
  · simp only [if_neg e]
theorem latS_flush (s : DS) (k : Int) : latS (flushS s) k = latS s k := by
  show (over s.fo s.fs k).getD zs = _
  unfold latS over
  cases s.fo k with
  | some l => rw [Option.getD_some, Option.getD_some]
  | none => rw [Option.getD_none]
theorem writeT_calm {s : DS} (h : CalmD s) {k : Int} (hk : 0 ≤ k ∧ k < s.n) {l : List UInt8} (hl : l.length = 512) : writeT s k l = (0, { s with fo := put s.fo k l }) := by
  unfold writeT
  rw [if_neg (by rw [h.may hk]; simp), if_neg (by rw [hl]; simp), writeS_calm h.a, downE_up (s := { s with fo := put s.fo k l }) h.d]
theorem syncT_calm {s : DS} (h : CalmD s) : syncT s = (0, flushS s) := by
  unfold syncT syncS
  have hn := h.n
  rw [if_neg (by rw [h.may ⟨by omega, by omega⟩]; simp), crashS_calm h.a, downE_up h.d, h.d]
  rfl
theorem mwT_calm {s : DS} (h : CalmD s) {m : Mst} (hm : m.may = true) : ∃ t, mwT s m = (0, t) ∧ CalmD t ∧ t.n = s.n ∧ ∀ k, latS t k = if k = m.seq % 2 then secM m else latS s k := by
  have hn := h.n
  have h1 := Int.emod_nonneg m.seq (show (2 : Int) ≠ 0 by omega)
  have h2 := Int.emod_lt_of_pos m.seq (show (0 : Int) < 2 by omega)
  refine ⟨flushS { s with fo := put s.fo (m.seq % 2) (secM m) }, ?_, (h.put_ _ _).flush, rfl, fun k => by rw [latS_flush, latS_put]⟩
  unfold mwT
  rw [if_neg (by omega), if_neg (by rw [hm]; simp), writeT_calm h ⟨h1, by omega⟩ (secM_length m)]
  rw [if_neg (by simp), syncT_calm (h.put_ _ _)]
theorem mwT_not {s : DS} (m : Mst) (hm : m.may = false) : mwT s m = (2, s) := by
  unfold mwT
  rw [if_pos hm]
  split <;> rfl
theorem fmGo_calm {s : DS} (h : CalmD s) (hz : ∀ k, latS s k = zs) : ∀ k : Nat, (k : Int) ≤ s.n → ∃ t, fmGo s k = (0, t) ∧ CalmD t ∧ t.n = s.n ∧ ∀ j, latS t j = zs
  | 0, _ => ⟨s, rfl, h, rfl, hz⟩
  | k + 1, hk => by
    obtain ⟨t, h1, h2, h3, h4⟩ := fmGo_calm h hz k (by omega)
    refine ⟨{ t with fo := put t.fo k zs }, ?_, h2.put_ _ _, h3, fun j => by rw [latS_put, h4]; split <;> rfl⟩
    rw [fmGo, h1]
    rw [if_neg (by simp), writeT_calm h2 ⟨by omega, by omega⟩ zs_length]
theorem fmT_calm {s : DS} (h : CalmD s) (hz : ∀ k, latS s k = zs) : ∃ t, fmT s = (0, t) ∧ CalmD t ∧ t.n = s.n ∧ ∀ k, latS t k = if k = 1 then secM oneM else zs := by
  have hn := h.n
  obtain ⟨t, h1, h2, h3, h4⟩ := fmGo_calm h hz s.n.toNat (by omega)
  obtain ⟨u, h5, h6, h7, h8⟩ := mwT_calm h2.flush (m := oneM) (by decide)
  refine ⟨u, ?_, h6, by rw [h7]; exact h3, fun k => by rw [h8, latS_flush, h4]; rfl⟩
  unfold fmT
  rw [if_neg (by omega), h1]
  rw [if_neg (by simp), syncT_calm h2]
  rw [if_neg (by simp)]
  exact h5
theorem calm_new (n : Int) (h : 40 ≤ n) : CalmD (newS n) := ⟨h, rfl, rfl⟩
theorem new_zs (n : Int) (k : Int) : latS (newS n) k = zs := by unfold latS newS; simp

def twoM : Mst := ⟨2, 5, 7, 0⟩
theorem parse_one : parseM (secM oneM) = oneM := by kernel_rfl
theorem parse_two : parseM (secM twoM) = twoM := by kernel_rfl
theorem rd_two {s : DS} (h : CalmD s) (h0 : latS s 0 = secM twoM) (h1 : latS s 1 = secM oneM) : rdMT s = (0, twoM) := by
  have hn := h.n
  have b1 : bestS s 1 = twoM := by
    rw [bestS_succ s 0, show ((0 : Nat) : Int) = 0 from rfl, h0, okM, parse_two]
    rw [if_pos]
    have e : decide (secM twoM = secM twoM) = true := decide_eq_true rfl
    rw [e]
    rfl
  have b2 : bestS s 2 = twoM := by
    rw [bestS_succ s 1, show ((1 : Nat) : Int) = 1 from rfl, h1, parse_one, b1]
    rw [if_neg]
    rw [show decide (twoM.seq < oneM.seq) = false from by decide]
    simp
  rw [rdMT_up h.n (h.may ⟨by omega, by omega⟩) twoM b2]
  rfl

end Go.Proofs.Ythkbnhoebijdoaa
