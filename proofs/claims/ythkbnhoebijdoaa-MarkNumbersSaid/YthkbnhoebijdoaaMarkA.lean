/-
  Masters: where all stands, what a master may be, why a disk has no place for one.
-/
import Derived.Test.YthkbnhoebijdoaaZero
import Derived.Handy
namespace Go.Proofs.Ythkbnhoebijdoaa
open Go Go.RowKit Go.SM

/-- how many sectors the log has -/
def cntS (n : Int) : Int := max (n / 4) 12
/-- where all stands -/
def placeV (n : Int) : Value := if n < 40 ∨ 8192 < n then .tuple #[.int .i64 0, .int .i64 0, .int .i64 0, .int .i64 0] else .tuple #[.int .i64 2, .int .i64 (n - cntS n - 2), .int .i64 (n - cntS n), .int .i64 (cntS n)]

theorem place_any (n : Int) (w : World) : Calls Try.prog 9 #[.int .i64 n] w fun e w' => e = .returned (placeV n) ∧ w = w' := by
  by_cases h1 : n < 40
  · have d1 : decide (n < 40) = true := by simpa using h1
    have HP := Lib.hid (show placeV n = .tuple #[.int .i64 0, .int .i64 0, .int .i64 0, .int .i64 0] by unfold placeV; rw [if_pos (.inl h1)])
    go_enter Try.func9, Try.ntmps9
    go_wp2
    go_returns
    exact ⟨by rw [HP.out], rfl⟩
  · have d1 : decide (n < 40) = false := by simpa using h1
    by_cases h2 : 8192 < n
    · have d2 : decide (8192 < n) = true := by simpa using h2
      have HP := Lib.hid (show placeV n = .tuple #[.int .i64 0, .int .i64 0, .int .i64 0, .int .i64 0] by unfold placeV; rw [if_pos (.inr h2)])
      go_enter Try.func9, Try.ntmps9
      go_wp2
      go_returns
      exact ⟨by rw [HP.out], rfl⟩
    · have d2 : decide (8192 < n) = false := by simpa using h2
      obtain ⟨m, rfl⟩ : ∃ m : Nat, n = m := ⟨n.toNat, by omega⟩
      have HP := Lib.hid (show placeV m = .tuple #[.int .i64 2, .int .i64 ((m : Int) - cntS m - 2), .int .i64 ((m : Int) - cntS m), .int .i64 (cntS m)] by unfold placeV; rw [if_neg (by omega)])
      go_enter Try.func9, Try.ntmps9
      go_wp2
      · go_returns
        have e : cntS m = 12 := by unfold cntS; omega
        exact ⟨by rw [HP.out, e], rfl⟩
      · go_returns
        have e : cntS m = (m : Int) / 4 := by unfold cntS; omega
        exact ⟨by rw [HP.out, e], rfl⟩

theorem within_any (a lo hi : Int) (w : World) : Calls Try.prog 44 #[.int .i64 a, .int .i64 lo, .int .i64 hi] w fun e w' => e = .returned (.bool (decide (lo ≤ a) && decide (a ≤ hi))) ∧ w = w' := by
  by_cases h : lo ≤ a
  · have d1 : decide (lo ≤ a) = true := by simpa using h
    go_enter Try.func44, Try.ntmps44
    go_wp2
    go_returns
    exact ⟨by rw [d1]; rfl, rfl⟩
  · have d1 : decide (lo ≤ a) = false := by simpa using h
    go_enter Try.func44, Try.ntmps44
    go_wp2
    go_returns
    exact ⟨rfl, rfl⟩

/-- a master -/
structure Mst where
  seq : Int
  turn : Int
  oldest : Int
  mark : Int
deriving DecidableEq

def mCells (m : Mst) : Array Value := #[.int .i64 m.seq, .int .i64 m.turn, .int .i64 m.oldest, .int .i64 m.mark]
def mV (m : Mst) : Value := .agg (mCells m)
def Mst.may (m : Mst) : Bool := (decide (1 ≤ m.seq) && decide (m.seq ≤ 2305843009213693952)) && (decide (1 ≤ m.turn) && decide (m.turn ≤ 2147483647)) && (decide (1 ≤ m.oldest) && decide (m.oldest ≤ 1152921504606846976)) && (decide (0 ≤ m.mark) && decide (m.mark ≤ 1152921504606846976))

/-- a master in a variable -/
def MstAt (w : World) (g : Nat) (m : Mst) : Prop :=
  w.cell? ⟨g, 0, none⟩ = some (.int .i64 m.seq) ∧ w.cell? ⟨g, 1, none⟩ = some (.int .i64 m.turn) ∧ w.cell? ⟨g, 2, none⟩ = some (.int .i64 m.oldest) ∧ w.cell? ⟨g, 3, none⟩ = some (.int .i64 m.mark)
theorem MstAt.of {w : World} {g : Nat} {m : Mst} {t : TypeId} (h : w.heap[g]? = some (.cells (mCells m) t (0, 0))) : MstAt w g m :=
  ⟨by rw [cell_of_row w g 0 _ _ _ h]; rfl, by rw [cell_of_row w g 1 _ _ _ h]; rfl, by rw [cell_of_row w g 2 _ _ _ h]; rfl, by rw [cell_of_row w g 3 _ _ _ h]; rfl⟩

theorem may_mst (m : Mst) (w : World) : Calls Try.prog 30 #[mV m] w fun e w' => e = .returned (.bool m.may) ∧ Mod none_ w w' := by
  unfold mV mCells
  obtain ⟨P1, h1⟩ : ∃ b, b = (decide (1 ≤ m.seq) && decide (m.seq ≤ 2305843009213693952)) := ⟨_, rfl⟩
  obtain ⟨P2, h2⟩ : ∃ b, b = (decide (1 ≤ m.turn) && decide (m.turn ≤ 2147483647)) := ⟨_, rfl⟩
  obtain ⟨P3, h3⟩ : ∃ b, b = (decide (1 ≤ m.oldest) && decide (m.oldest ≤ 1152921504606846976)) := ⟨_, rfl⟩
  obtain ⟨P4, h4⟩ : ∃ b, b = (decide (0 ≤ m.mark) && decide (m.mark ≤ 1152921504606846976)) := ⟨_, rfl⟩
  have HH := Lib.hid (show m.may = (P1 && P2 && P3 && P4) by rw [h1, h2, h3, h4]; rfl)
  have H1 := Lib.hid h1
  have H2 := Lib.hid h2
  have H3 := Lib.hid h3
  have H4 := Lib.hid h4
  clear h1 h2 h3 h4
  go_enter Try.func30, Try.ntmps30
  go_wp2_with (with_reducible refine at_ (o := ⟨some 1, .box _ _, _, _, _, _⟩) ?_)
  refine un (wpList_box rfl 27 _ rfl _ rfl ?_)
  intro w1 g hb1 hm1 hs1
  obtain ⟨c0, c1, c2, c3⟩ := MstAt.of (m := m) hb1
  have HM := Lib.hid hm1
  clear hb1 hm1 hs1
  go_frame
  cases P1 with
  | false =>
    go_wp2_with ((with_reducible refine (within_any _ _ _ _).mono ?_); rintro e w' ⟨rfl, rfl⟩; first | rw [← H1.out])
    go_returns
    exact ⟨by rw [HH.out]; rfl, HM.out⟩
  | true =>
    cases P2 with
    | false =>
      go_wp2_with ((with_reducible refine (within_any _ _ _ _).mono ?_); rintro e w' ⟨rfl, rfl⟩; first | rw [← H1.out] | rw [← H2.out])
      go_returns
      exact ⟨by rw [HH.out]; rfl, HM.out⟩
    | true =>
      cases P3 with
      | false =>
        go_wp2_with ((with_reducible refine (within_any _ _ _ _).mono ?_); rintro e w' ⟨rfl, rfl⟩; first | rw [← H1.out] | rw [← H2.out] | rw [← H3.out])
        go_returns
        exact ⟨by rw [HH.out]; rfl, HM.out⟩
      | true =>
        go_wp2_with ((with_reducible refine (within_any _ _ _ _).mono ?_); rintro e w' ⟨rfl, rfl⟩; first | rw [← H1.out] | rw [← H2.out] | rw [← H3.out] | rw [← H4.out])
        go_returns
        exact ⟨by rw [HH.out]; simp, HM.out⟩

theorem big_live {w0 w : World} {b ms mo : Nat} {s : DS} (h : Live w0 w b ms mo s) :
    Calls Try.prog 29 #[.pointer (some ⟨b, 0, none⟩)] w fun e w' => e = .returned (.int .i64 (if s.n < 40 then 2 else 0)) ∧ w = w' := by
  have HL := Lib.hid h.at_
  have dz : (s.n == 0) = false := by have := h.at_.n1; rw [beq_eq_false_iff_ne]; omega
  by_cases h1 : s.n < 40
  · have d1 : decide (s.n < 40) = true := by simpa using h1
    rw [if_pos h1]
    clear h
    go_enter Try.func29, Try.ntmps29
    go_wp2_with ((with_reducible refine (sectors_any HL.out).mono ?_); rintro e w' ⟨rfl, rfl⟩)
    go_returns
    exact ⟨rfl, rfl⟩
  · have d1 : decide (s.n < 40) = false := by simpa using h1
    rw [if_neg h1]
    clear h
    go_enter Try.func29, Try.ntmps29
    go_wp2_with ((with_reducible refine (sectors_any HL.out).mono ?_); rintro e w' ⟨rfl, rfl⟩)
    go_returns
    exact ⟨rfl, rfl⟩

theorem big_no {w : World} {p : Value} (h : Nought w p) :
    Calls Try.prog 29 #[p] w fun e w' => e = .returned (.int .i64 1) ∧ w = w' := by
  have H := Lib.hid h
  clear h
  go_enter Try.func29, Try.ntmps29
  go_wp2_with ((with_reducible refine (no_sectors H.out).mono ?_); rintro e w' ⟨rfl, rfl⟩)
  go_returns
  exact ⟨rfl, rfl⟩

end Go.Proofs.Ythkbnhoebijdoaa
