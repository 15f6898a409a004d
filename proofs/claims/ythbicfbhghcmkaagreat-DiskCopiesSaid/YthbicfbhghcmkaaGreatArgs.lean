/-
  The laws' arguments as lists: steps of a disk's life.
-/
import Derived.Test.YthbicfbhghcmkaaGreatArgF
namespace Go.Proofs.YthbicfbhghcmkaaGreat
open Go Go.RowKit Go.SM Go.ChangeShapes Go.WideShapes Go.Deep

/-- one step of a disk's life -/
structure DoD where
  op : Int
  sector : Int
  n : Int
  byte : UInt8
  fates : List Int

def DoD.ok (x : DoD) : Prop := I64 x.op ∧ I64 x.sector ∧ I64 x.n ∧ ∀ k ∈ x.fates, I64 k

/-- a step's cells, from one place on -/
def DoAt (w : World) (D : Nat → Prop) (b o : Nat) (x : DoD) : Prop :=
  w.cell? ⟨b, o, none⟩ = some (.int .i64 x.op) ∧ w.cell? ⟨b, o + 1, none⟩ = some (.int .i64 x.sector) ∧ w.cell? ⟨b, o + 2, none⟩ = some (.int .i64 x.n) ∧
  w.cell? ⟨b, o + 3, none⟩ = some (.int .u8 (x.byte.toNat : Int)) ∧ ∃ fv, w.cell? ⟨b, o + 4, none⟩ = some fv ∧ Rd w D 1 fv x.fates.length (ints x.fates)

/-- a slice of steps -/
def RdDos (w : World) (D : Nat → Prop) (v : Value) (xs : List DoD) : Prop :=
  ∃ A c, v = .slice A xs.length c ∧ xs.length ≤ c ∧ (0 < xs.length → ∃ b o, A = some ⟨b, o, none⟩ ∧ D b ∧ b < w.heap.size ∧ ∀ i (h : i < xs.length), DoAt w D b (o + i * 5) xs[i]) ∧ ∀ x ∈ xs, x.ok

theorem do_one : oneCellFields Tryz.prog #[⟨ "Op", 3, 0, false, "", "", 0⟩, ⟨ "Sector", 3, 1, false, "", "", 8⟩, ⟨ "N", 3, 2, false, "", "", 16⟩, ⟨ "Byte", 5, 3, false, "", "", 24⟩, ⟨ "Fates", 29, 4, false, "", "", 32⟩] = true := by kernel_rfl
theorem do_cells : Tryz.prog.cellsOf 31 = 5 := by kernel_rfl

section
variable {H : Type} {enc : TypeId × Value → H} {w : World} {base : Nat} {spare : Nat → Bool} {held : Bool}
theorem trod_i64 {n : Nat} {u : Value} {y : DataW H × List MemPlace} (h : DataW.trod enc Tryz.prog w base spare held n 3 [u] = some y) : ∃ k, u = .int .i64 k ∧ I64 k := by
  obtain ⟨k, hk, _, hw⟩ := DataW.trod_int Tryz.underlying3 h
  simp only [List.cons.injEq, and_true] at hk
  exact ⟨k, hk, I64.of_wf hw⟩
theorem trod_byte {n : Nat} {u : Value} {y : DataW H × List MemPlace} (h : DataW.trod enc Tryz.prog w base spare held n 5 [u] = some y) : ∃ b : UInt8, u = .int .u8 (b.toNat : Int) := by
  obtain ⟨k, hk, _, hw⟩ := DataW.trod_int Tryz.underlying5 h
  simp only [List.cons.injEq, and_true] at hk
  obtain ⟨b, hb⟩ := byte_of_wf hw
  exact ⟨b, by rw [hk, hb]⟩

theorem open_dos {fuel : Nat} {v : Value} {x : DataW H × List MemPlace} (h : DataW.trod enc Tryz.prog w base spare held fuel 22 [v] = some x) : ∃ xs : List DoD, RdDos w (Old w) v xs := by
  obtain ⟨A, len, cap, rfl, hlc, hc⟩ := open_slice_fields Tryz.underlying22 Tryz.underlying31 do_one do_cells (by decide) h
  rcases Nat.eq_zero_or_pos len with h0 | h0
  · subst h0
    exact ⟨[], A, cap, rfl, hlc, fun h => absurd h (by simp), by simp⟩
  · obtain ⟨b, o, rfl, hb, hat⟩ := hc h0
    have hall : ∀ i, i < len → ∃ x : DoD, DoAt w (Old w) b (o + i * 5) x ∧ x.ok := by
      intro i hi
      obtain ⟨u0, _, _, h0, t0⟩ := hat i hi 0 _ rfl
      obtain ⟨u1, _, _, h1, t1⟩ := hat i hi 1 _ rfl
      obtain ⟨u2, _, _, h2, t2⟩ := hat i hi 2 _ rfl
      obtain ⟨u3, _, _, h3, t3⟩ := hat i hi 3 _ rfl
      obtain ⟨u4, _, _, h4, t4⟩ := hat i hi 4 _ rfl
      obtain ⟨k0, rfl, r0⟩ := trod_i64 t0
      obtain ⟨k1, rfl, r1⟩ := trod_i64 t1
      obtain ⟨k2, rfl, r2⟩ := trod_i64 t2
      obtain ⟨k3, rfl⟩ := trod_byte t3
      obtain ⟨ks, hks, r4⟩ := open_fates t4
      exact ⟨⟨k0, k1, k2, k3, ks⟩, ⟨h0, h1, h2, h3, u4, h4, hks⟩, r0, r1, r2, r4⟩
    obtain ⟨xs, hl, hxs⟩ := list_of hall
    subst hl
    refine ⟨xs, _, cap, rfl, hlc, fun _ => ⟨b, o, rfl, hb, hb, fun i hi => (hxs i hi).1⟩, fun x hx => ?_⟩
    obtain ⟨i, hi, rfl⟩ := List.getElem_of_mem hx
    exact (hxs i hi).2
end

theorem DoAt.keep {w w' : World} {S D : Nat → Prop} {b o : Nat} {x : DoD} (h : DoAt w D b o x) (hm : Mod S w w') (hd : ∀ r, D r → r < w.heap.size → ¬ S r) (hb : D b) : DoAt w' D b o x := by
  obtain ⟨h0, h1, h2, h3, fv, h4, h5⟩ := h
  have hlt : b < w.heap.size := World.block_lt_of_cell? w _ h0
  have hk : ∀ i, w'.cell? ⟨b, i, none⟩ = w.cell? ⟨b, i, none⟩ := fun i => hm.cell (p := ⟨b, i, none⟩) hlt (hd b hb hlt)
  exact ⟨(hk _).trans h0, (hk _).trans h1, (hk _).trans h2, (hk _).trans h3, fv, (hk _).trans h4, h5.keep hm hd⟩

theorem RdDos.keep {w w' : World} {S D : Nat → Prop} {v : Value} {xs : List DoD} (h : RdDos w D v xs) (hm : Mod S w w') (hd : ∀ r, D r → r < w.heap.size → ¬ S r) : RdDos w' D v xs := by
  obtain ⟨A, c, hv, hl, hc, hok⟩ := h
  refine ⟨A, c, hv, hl, fun h0 => ?_, hok⟩
  obtain ⟨b, o, hA, hD, hb, hx⟩ := hc h0
  exact ⟨b, o, hA, hD, Nat.lt_of_lt_of_le hb hm.size, fun i hi => (hx i hi).keep hm hd hD⟩

theorem RdDos.slice {w : World} {D : Nat → Prop} {v : Value} {xs : List DoD} (h : RdDos w D v xs) : ∃ A c, v = .slice A xs.length c ∧ xs.length ≤ c := by
  obtain ⟨A, c, hv, hl, _⟩ := h
  exact ⟨A, c, hv, hl⟩

/-- one of them -/
theorem RdDos.at_ {w : World} {D : Nat → Prop} {v : Value} {xs : List DoD} (h : RdDos w D v xs) {i : Nat} (hi : i < xs.length) :
    ∃ b o c, v = .slice (some ⟨b, o, none⟩) xs.length c ∧ D b ∧ b < w.heap.size ∧ DoAt w D b (o + i * 5) xs[i] ∧ xs[i].ok := by
  obtain ⟨A, c, hv, hl, hc, hok⟩ := h
  obtain ⟨b, o, rfl, hD, hb, hx⟩ := hc (by omega)
  exact ⟨b, o, c, hv, hD, hb, hx i hi, hok _ (List.getElem_mem hi)⟩

/-- the first n of them -/
theorem RdDos.take {w : World} {D : Nat → Prop} {A : Option Addr} {m c : Nat} {xs : List DoD} (h : RdDos w D (.slice A m c) xs) {n : Nat} (hn : n ≤ xs.length) : RdDos w D (.slice A n c) (xs.take n) := by
  obtain ⟨A', c', hv, hl, hc, hok⟩ := h
  cases hv
  refine ⟨A, c, by rw [List.length_take, Nat.min_eq_left hn], by rw [List.length_take]; omega, fun h0 => ?_, fun x hx => hok x (List.mem_of_mem_take hx)⟩
  have h0' : 0 < xs.length := by rw [List.length_take] at h0; omega
  obtain ⟨b, o, hA, hD, hb, hx⟩ := hc h0'
  refine ⟨b, o, hA, hD, hb, fun i hi => ?_⟩
  rw [List.getElem_take]
  exact hx i (by rw [List.length_take] at hi; omega)

end Go.Proofs.YthbicfbhghcmkaaGreat
