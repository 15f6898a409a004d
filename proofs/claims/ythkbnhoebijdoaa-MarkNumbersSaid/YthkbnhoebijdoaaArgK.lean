/-
  The laws' arguments as lists: steps of a disk with masters.
-/
import Derived.Test.YthkbnhoebijdoaaOpenW
import Derived.Test.YthkbnhoebijdoaaArgF
import Derived.Test.YthkbnhoebijdoaaArgM
import Derived.Test.YthkbnhoebijdoaaMarkA
namespace Go.Proofs.Ythkbnhoebijdoaa
open Go Go.RowKit Go.SM Go.ChangeShapes Go.WideShapes Go.Deep

/-- one step -/
structure DoM where
  op : Int
  n : Int
  m : Mst
  fates : List Int
  byte : UInt8

def DoM.ok (x : DoM) : Prop := I64 x.op ∧ I64 x.n ∧ (I64 x.m.seq ∧ I64 x.m.turn ∧ I64 x.m.oldest ∧ I64 x.m.mark) ∧ ∀ k ∈ x.fates, I64 k

/-- a step's cells, from one place on -/
structure DmAt (w : World) (D : Nat → Prop) (b o : Nat) (x : DoM) : Prop where
  c0 : w.cell? ⟨b, o, none⟩ = some (.int .i64 x.op)
  c1 : w.cell? ⟨b, o + 1, none⟩ = some (.int .i64 x.n)
  c2 : w.cell? ⟨b, o + 2, none⟩ = some (.int .i64 x.m.seq)
  c3 : w.cell? ⟨b, o + 3, none⟩ = some (.int .i64 x.m.turn)
  c4 : w.cell? ⟨b, o + 4, none⟩ = some (.int .i64 x.m.oldest)
  c5 : w.cell? ⟨b, o + 5, none⟩ = some (.int .i64 x.m.mark)
  c6 : ∃ fv, w.cell? ⟨b, o + 6, none⟩ = some fv ∧ Rd w D 1 fv x.fates.length (ints x.fates)
  c7 : w.cell? ⟨b, o + 7, none⟩ = some (.int .u8 (x.byte.toNat : Int))

/-- a slice of steps -/
def RdDms (w : World) (D : Nat → Prop) (v : Value) (xs : List DoM) : Prop :=
  ∃ A c, v = .slice A xs.length c ∧ xs.length ≤ c ∧ (0 < xs.length → ∃ b o, A = some ⟨b, o, none⟩ ∧ D b ∧ b < w.heap.size ∧ ∀ i (h : i < xs.length), DmAt w D b (o + i * 8) xs[i]) ∧ ∀ x ∈ xs, x.ok

theorem dm_cells : Try.prog.cellsOf 47 = 8 := by kernel_rfl
theorem mst_cells : Try.prog.cellsOf 27 = 4 := by kernel_rfl
theorem int_cells : Try.prog.cellsOf 3 = 1 := by kernel_rfl
theorem i64_cells : Try.prog.cellsOf 2 = 1 := by kernel_rfl
theorem u8_cells : Try.prog.cellsOf 5 = 1 := by kernel_rfl
theorem fates_cells : Try.prog.cellsOf 45 = 1 := by kernel_rfl

theorem list8 {α : Type} {l : List α} (h : l.length = 8) : ∃ a b c d e f g k, l = [a, b, c, d, e, f, g, k] := by
  match l, h with
  | [a, b, c, d, e, f, g, k], _ => exact ⟨a, b, c, d, e, f, g, k, rfl⟩

section
variable {H : Type} {enc : TypeId × Value → H} {w : World} {base : Nat} {spare : Nat → Bool} {held : Bool}
theorem trod_int0 {n : Nat} {u : Value} {y : DataW H × List MemPlace} (h : DataW.trod enc Try.prog w base spare held n 3 [u] = some y) : ∃ k, u = .int .i64 k ∧ I64 k := by
  obtain ⟨k, hk, _, hw⟩ := DataW.trod_int Try.underlying3 h
  simp only [List.cons.injEq, and_true] at hk
  exact ⟨k, hk, I64.of_wf hw⟩
theorem trod_byte0 {n : Nat} {u : Value} {y : DataW H × List MemPlace} (h : DataW.trod enc Try.prog w base spare held n 5 [u] = some y) : ∃ b : UInt8, u = .int .u8 (b.toNat : Int) := by
  obtain ⟨k, hk, _, hw⟩ := DataW.trod_int Try.underlying5 h
  simp only [List.cons.injEq, and_true] at hk
  obtain ⟨b, hb⟩ := byte_of_wf hw
  exact ⟨b, by rw [hk, hb]⟩
theorem trod_master {n : Nat} {u0 u1 u2 u3 : Value} {y : DataW H × List MemPlace} (h : DataW.trod enc Try.prog w base spare held n 27 [u0, u1, u2, u3] = some y) :
    ∃ m : Mst, [u0, u1, u2, u3] = [.int .i64 m.seq, .int .i64 m.turn, .int .i64 m.oldest, .int .i64 m.mark] ∧ I64 m.seq ∧ I64 m.turn ∧ I64 m.oldest ∧ I64 m.mark := by
  obtain ⟨y0, y1, y2, y3, n', _, _, h0, h1, h2, h3⟩ := Joins.trod_struct4 Try.underlying27 h
  obtain ⟨k0, e0, r0⟩ := trod_int64 (u := u0) (by simpa [i64_cells] using h0)
  obtain ⟨k1, e1, r1⟩ := trod_int64 (u := u1) (by simpa [i64_cells] using h1)
  obtain ⟨k2, e2, r2⟩ := trod_int64 (u := u2) (by simpa [i64_cells] using h2)
  obtain ⟨k3, e3, r3⟩ := trod_int64 (u := u3) (by simpa [i64_cells] using h3)
  exact ⟨⟨k0, k1, k2, k3⟩, by rw [e0, e1, e2, e3], r0, r1, r2, r3⟩

theorem open_dms {fuel : Nat} {v : Value} {x : DataW H × List MemPlace} (h : DataW.trod enc Try.prog w base spare held fuel 41 [v] = some x) : ∃ xs : List DoM, RdDms w (Old w) v xs := by
  obtain ⟨A, len, cap, rfl, hlc, hc⟩ := open_slice_wide Try.underlying41 Try.underlying47 dm_cells (by decide) h
  rcases Nat.eq_zero_or_pos len with h0 | h0
  · subst h0
    exact ⟨[], A, cap, rfl, hlc, fun h => absurd h (by simp), by simp⟩
  · obtain ⟨b, o, rfl, hb, hat⟩ := hc h0
    have hall : ∀ i, i < len → ∃ x : DoM, DmAt w (Old w) b (o + i * 8) x ∧ x.ok := by
      intro i hi
      obtain ⟨cs, n, hl, hcell, hf⟩ := hat i hi
      obtain ⟨u0, u1, u2, u3, u4, u5, u6, u7, rfl⟩ := list8 hl
      obtain ⟨_, t0⟩ := hf 0 _ rfl
      obtain ⟨_, t1⟩ := hf 1 _ rfl
      obtain ⟨_, t2⟩ := hf 2 _ rfl
      obtain ⟨_, t3⟩ := hf 3 _ rfl
      obtain ⟨_, t4⟩ := hf 4 _ rfl
      obtain ⟨k0, rfl, r0⟩ := trod_int0 (u := u0) (by simpa [int_cells] using t0)
      obtain ⟨k1, rfl, r1⟩ := trod_int0 (u := u1) (by simpa [int_cells] using t1)
      obtain ⟨m, hm, r2⟩ := trod_master (u0 := u2) (u1 := u3) (u2 := u4) (u3 := u5) (by simpa [mst_cells] using t2)
      simp only [List.cons.injEq, and_true] at hm
      obtain ⟨rfl, rfl, rfl, rfl⟩ := hm
      obtain ⟨ks, hks, r3⟩ := open_fates (v := u6) (by simpa [fates_cells] using t3)
      obtain ⟨k4, rfl⟩ := trod_byte0 (u := u7) (by simpa [u8_cells] using t4)
      have hcl : ∀ (j : Nat) (u : Value), ([Value.int .i64 k0, Value.int .i64 k1, Value.int .i64 m.seq, Value.int .i64 m.turn, Value.int .i64 m.oldest, Value.int .i64 m.mark, u6, Value.int .u8 k4.toNat] : List Value)[j]? = some u → w.cell? ⟨b, o + i * 8 + j, none⟩ = some u := fun j u hu => by rw [Nat.add_assoc]; exact hcell j u hu
      exact ⟨⟨k0, k1, m, ks, k4⟩, ⟨hcl 0 _ rfl, hcl 1 _ rfl, hcl 2 _ rfl, hcl 3 _ rfl, hcl 4 _ rfl, hcl 5 _ rfl, ⟨_, hcl 6 _ rfl, hks⟩, hcl 7 _ rfl⟩, r0, r1, r2, r3⟩
    obtain ⟨xs, hl, hxs⟩ := list_of hall
    subst hl
    refine ⟨xs, _, cap, rfl, hlc, fun _ => ⟨b, o, rfl, hb, hb, fun i hi => (hxs i hi).1⟩, fun x hx => ?_⟩
    obtain ⟨i, hi, rfl⟩ := List.getElem_of_mem hx
    exact (hxs i hi).2
end

theorem DmAt.keep {w w' : World} {S D : Nat → Prop} {b o : Nat} {x : DoM} (h : DmAt w D b o x) (hm : Mod S w w') (hd : ∀ r, D r → r < w.heap.size → ¬ S r) (hb : D b) : DmAt w' D b o x := by
  have hlt : b < w.heap.size := World.block_lt_of_cell? w _ h.c0
  have hk : ∀ i, w'.cell? ⟨b, i, none⟩ = w.cell? ⟨b, i, none⟩ := fun i => hm.cell (p := ⟨b, i, none⟩) hlt (hd b hb hlt)
  obtain ⟨fv, h6, h7⟩ := h.c6
  exact ⟨(hk _).trans h.c0, (hk _).trans h.c1, (hk _).trans h.c2, (hk _).trans h.c3, (hk _).trans h.c4, (hk _).trans h.c5, ⟨fv, (hk _).trans h6, h7.keep hm hd⟩, (hk _).trans h.c7⟩

theorem RdDms.keep {w w' : World} {S D : Nat → Prop} {v : Value} {xs : List DoM} (h : RdDms w D v xs) (hm : Mod S w w') (hd : ∀ r, D r → r < w.heap.size → ¬ S r) : RdDms w' D v xs := by
  obtain ⟨A, c, hv, hl, hc, hok⟩ := h
  refine ⟨A, c, hv, hl, fun h0 => ?_, hok⟩
  obtain ⟨b, o, hA, hD, hb, hx⟩ := hc h0
  exact ⟨b, o, hA, hD, Nat.lt_of_lt_of_le hb hm.size, fun i hi => (hx i hi).keep hm hd hD⟩

theorem RdDms.slice {w : World} {D : Nat → Prop} {v : Value} {xs : List DoM} (h : RdDms w D v xs) : ∃ A c, v = .slice A xs.length c ∧ xs.length ≤ c := by
  obtain ⟨A, c, hv, hl, _⟩ := h
  exact ⟨A, c, hv, hl⟩

/-- one of them -/
theorem RdDms.at_ {w : World} {D : Nat → Prop} {v : Value} {xs : List DoM} (h : RdDms w D v xs) {i : Nat} (hi : i < xs.length) :
    ∃ b o c, v = .slice (some ⟨b, o, none⟩) xs.length c ∧ D b ∧ b < w.heap.size ∧ DmAt w D b (o + i * 8) xs[i] ∧ xs[i].ok := by
  obtain ⟨A, c, hv, hl, hc, hok⟩ := h
  obtain ⟨b, o, rfl, hD, hb, hx⟩ := hc (by omega)
  exact ⟨b, o, c, hv, hD, hb, hx i hi, hok _ (List.getElem_mem hi)⟩

/-- the first n of them -/
theorem RdDms.take {w : World} {D : Nat → Prop} {A : Option Addr} {m c : Nat} {xs : List DoM} (h : RdDms w D (.slice A m c) xs) {n : Nat} (hn : n ≤ xs.length) : RdDms w D (.slice A n c) (xs.take n) := by
  obtain ⟨A', c', hv, hl, hc, hok⟩ := h
  cases hv
  refine ⟨A, c, by rw [List.length_take, Nat.min_eq_left hn], by rw [List.length_take]; omega, fun h0 => ?_, fun x hx => hok x (List.mem_of_mem_take hx)⟩
  have h0' : 0 < xs.length := by rw [List.length_take] at h0; omega
  obtain ⟨b, o, hA, hD, hb, hx⟩ := hc h0'
  refine ⟨b, o, hA, hD, hb, fun i hi => ?_⟩
  rw [List.getElem_take]
  exact hx i (by rw [List.length_take] at hi; omega)

end Go.Proofs.Ythkbnhoebijdoaa
