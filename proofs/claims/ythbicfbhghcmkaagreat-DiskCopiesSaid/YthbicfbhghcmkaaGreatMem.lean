/-
  Plain words for memory: which blocks a call may turn ('Mod'), bytes in cells, slices of bytes that are read ('Rd'). No program in sight.
-/
import Derived.WalkKit
import Derived.Lib.Hide
import Derived.Deep.Draws
namespace Go.SM
open Go Go.RowKit

/-- Of the blocks that were there only those in S may have turned. -/
structure Mod (S : Nat → Prop) (w w' : World) : Prop where
  os : w'.os = w.os
  tape : w'.tape = w.tape
  output : w'.output = w.output
  size : w.heap.size ≤ w'.heap.size
  block : ∀ k, k < w.heap.size → ¬ S k → w'.heap[k]? = w.heap[k]?

def none_ : Nat → Prop := fun _ => False

theorem Mod.refl (S : Nat → Prop) (w : World) : Mod S w w := ⟨rfl, rfl, rfl, Nat.le_refl _, fun _ _ _ => rfl⟩
theorem Mod.trans {S S' : Nat → Prop} {a b c : World} (h : Mod S a b) (k : Mod S' b c) (hs : ∀ r, S' r → r < a.heap.size → S r) : Mod S a c :=
  ⟨k.os.trans h.os, k.tape.trans h.tape, k.output.trans h.output, Nat.le_trans h.size k.size,
    fun r hr hn => (k.block r (Nat.lt_of_lt_of_le hr h.size) (fun e => hn (hs r e hr))).trans (h.block r hr hn)⟩
theorem Mod.trans' {S : Nat → Prop} {a b c : World} (h : Mod S a b) (k : Mod S b c) : Mod S a c := h.trans k fun _ e _ => e
theorem Mod.mono {S S' : Nat → Prop} {a b : World} (h : Mod S a b) (hs : ∀ r, r < a.heap.size → S r → S' r) : Mod S' a b :=
  ⟨h.os, h.tape, h.output, h.size, fun r hr hn => h.block r hr fun e => hn (hs r hr e)⟩
theorem Mod.drew {S : Nat → Prop} {a b : World} (h : Mod S a b) : Mod S a b.drew := ⟨h.os, h.tape, h.output, h.size, h.block⟩
theorem Mod.drewN {S : Nat → Prop} {a b : World} (h : Mod S a b) (n : Nat) : Mod S a (b.drewN n) := ⟨h.os, h.tape, h.output, h.size, h.block⟩
theorem Mod.alloc {S : Nat → Prop} {a b : World} (h : Mod S a b) (o : Obj) : Mod S a (b.alloc o) :=
  ⟨h.os, h.tape, h.output, Nat.le_trans h.size (by simp), fun r hr hn => (Below.heap_alloc b o r (Nat.lt_of_lt_of_le hr h.size)).trans (h.block r hr hn)⟩
theorem Mod.setCell {S : Nat → Prop} {a b : World} (h : Mod S a b) {p : Addr} (hp : S p.block ∨ a.heap.size ≤ p.block) (u : Value) : Mod S a (b.setCell p u) :=
  ⟨h.os, h.tape, h.output, by simpa [World.setCell] using h.size, fun r hr hn => (Below.heap_setCell b p u r (by
    rintro rfl
    rcases hp with hp | hp
    · exact hn hp
    · omega)).trans (h.block r hr hn)⟩
theorem Mod.grown {S : Nat → Prop} {a b c : World} {row : Option Nat} (h : Mod S a b) (hg : b.grownBy c row) (hr : ∀ k, row = some k → S k ∨ a.heap.size ≤ k) : Mod S a c :=
  ⟨hg.os.trans h.os, hg.tape.trans h.tape, hg.output.trans h.output, Nat.le_trans h.size hg.size, fun k hk hn =>
    (hg.block k (Nat.lt_of_lt_of_le hk h.size) (fun e => by
      rcases hr k e.symm with h1 | h1
      · exact hn h1
      · omega)).trans (h.block k hk hn)⟩
theorem Mod.get {S : Nat → Prop} {w w' : World} (h : Mod S w w') {b : Nat} {o : Obj} (hb : w.heap[b]? = some o) (hn : ¬ S b) : w'.heap[b]? = some o := by
  have hlt : b < w.heap.size := (Array.getElem?_eq_some_iff.1 hb).1
  exact (h.block b hlt hn).trans hb
theorem Mod.below {S : Nat → Prop} {w w' : World} (h : Mod S w w') (hS : ∀ r, r < w.heap.size → ¬ S r) : Below w.heap.size w w' :=
  ⟨h.os, h.tape, h.output, h.size, fun r hr => h.block r hr (hS r hr)⟩
theorem Mod.of_below {w w' : World} (h : Below w.heap.size w w') (S : Nat → Prop) : Mod S w w' :=
  ⟨h.os, h.tape, h.output, h.size, fun r hr _ => h.block r hr⟩
theorem Mod.cell {S : Nat → Prop} {w w' : World} (h : Mod S w w') {p : Addr} (hp : p.block < w.heap.size) (hn : ¬ S p.block) : w'.cell? p = w.cell? p :=
  World.cell?_of_block (w := w) (h.block p.block hp hn)
theorem Mod.frozen {S : Nat → Prop} {w w' : World} (h : Mod S w w') {p : Addr} (hp : p.block < w.heap.size) (hn : ¬ S p.block) : w'.frozen? p = w.frozen? p :=
  World.frozen?_of_block (w := w) (h.block p.block hp hn)

/-- what is laid over a block that is no row of cells: the world as 'setObj' leaves it -/
def setB (w : World) (r : Nat) (o : Obj) : World := { w with heap := w.heap.setIfInBounds r o }
@[simp] theorem size_setB (w : World) (r : Nat) (o : Obj) : (setB w r o).heap.size = w.heap.size := by simp [setB]
theorem heap_setB_same (w : World) (r : Nat) (o : Obj) (h : r < w.heap.size) : (setB w r o).heap[r]? = some o := by
  show (w.heap.setIfInBounds r o)[r]? = some o
  simp [h]
theorem heap_setB_other (w : World) (r k : Nat) (o : Obj) (h : k ≠ r) : (setB w r o).heap[k]? = w.heap[k]? := by
  show (w.heap.setIfInBounds r o)[k]? = _
  simp [Ne.symm h]
theorem Mod.setB {S : Nat → Prop} {a b : World} (h : Mod S a b) {r : Nat} (hp : S r ∨ a.heap.size ≤ r) (o : Obj) : Mod S a (setB b r o) :=
  ⟨h.os, h.tape, h.output, by simpa using h.size, fun k hr hn => (heap_setB_other b r k o (by
    rintro rfl
    rcases hp with hp | hp
    · exact hn hp
    · omega)).trans (h.block k hr hn)⟩

theorem blk_lt {w : World} {b : Nat} {o : Obj} (hb : w.heap[b]? = some o) : b < w.heap.size := (Array.getElem?_eq_some_iff.1 hb).1

/-- a byte as a cell -/
def u8 (b : UInt8) : Value := .int .u8 (b.toNat : Int)
/-- bytes as cells -/
def u8s (l : List UInt8) : List Value := l.map u8
@[simp] theorem length_u8s (l : List UInt8) : (u8s l).length = l.length := by simp [u8s]
theorem u8s_append (l m : List UInt8) : u8s (l ++ m) = u8s l ++ u8s m := by simp [u8s]
theorem u8s_get (l : List UInt8) (i : Nat) (h : i < l.length) : (u8s l)[i]? = some (u8 l[i]) := by simp [u8s, h]
theorem u8s_get? (l : List UInt8) (i : Nat) : (u8s l)[i]? = l[i]?.map u8 := by simp [u8s]
theorem u8s_take (l : List UInt8) (n : Nat) : u8s (l.take n) = (u8s l).take n := by simp [u8s, List.map_take]
theorem u8s_drop (l : List UInt8) (n : Nat) : u8s (l.drop n) = (u8s l).drop n := by simp [u8s, List.map_drop]
theorem u8s_one (l : List UInt8) : ∀ u ∈ u8s l, u.oneCell' = true := by
  intro u hu
  simp only [u8s, List.mem_map] at hu
  obtain ⟨b, _, rfl⟩ := hu
  rfl

/-- THE SLICE 'v' READS, OUT OF BLOCKS OF D, AS n ELEMENTS OF sz CELLS EACH: xs. -/
def Rd (w : World) (D : Nat → Prop) (sz : Nat) (v : Value) (n : Nat) (xs : List Value) : Prop :=
  ∃ A c, v = .slice A n c ∧ n ≤ c ∧ xs.length = n * sz ∧ (0 < n → ∃ b o, A = some ⟨b, o, none⟩ ∧ D b ∧ b < w.heap.size ∧ ∀ i u, xs[i]? = some u → w.cell? ⟨b, o + i, none⟩ = some u)

section
variable {w w' : World} {S D D' : Nat → Prop} {sz n : Nat} {v : Value} {xs : List Value}
theorem Rd.nil_ (w : World) (D : Nat → Prop) (sz : Nat) : Rd w D sz (.slice none 0 0) 0 [] := ⟨none, 0, rfl, Nat.le_refl _, by simp, fun h => absurd h (by simp)⟩
theorem Rd.keep (h : Rd w D sz v n xs) (hm : Mod S w w') (hd : ∀ r, D r → r < w.heap.size → ¬ S r) : Rd w' D sz v n xs := by
  obtain ⟨A, c, hv, hl, hx, hc⟩ := h
  refine ⟨A, c, hv, hl, hx, fun h0 => ?_⟩
  obtain ⟨b, o, hA, hD, hb, hx⟩ := hc h0
  exact ⟨b, o, hA, hD, Nat.lt_of_lt_of_le hb hm.size, fun i u hu => (hm.cell (p := ⟨b, o + i, none⟩) hb (hd b hD hb)).trans (hx i u hu)⟩
theorem Rd.mono (h : Rd w D sz v n xs) (hd : ∀ r, D r → r < w.heap.size → D' r) : Rd w D' sz v n xs := by
  obtain ⟨A, c, hv, hl, hx, hc⟩ := h
  refine ⟨A, c, hv, hl, hx, fun h0 => ?_⟩
  obtain ⟨b, o, hA, hD, hb, hx⟩ := hc h0
  exact ⟨b, o, hA, hd b hD hb, hb, hx⟩
theorem Rd.len (h : Rd w D sz v n xs) : xs.length = n * sz := by obtain ⟨A, c, hv, hl, hx, hc⟩ := h; exact hx
/-- the form of the slice, where it has elements -/
theorem Rd.form (h : Rd w D sz v n xs) (h0 : 0 < n) : ∃ b o c, v = .slice (some ⟨b, o, none⟩) n c ∧ n ≤ c ∧ D b ∧ b < w.heap.size ∧ ∀ i u, xs[i]? = some u → w.cell? ⟨b, o + i, none⟩ = some u := by
  obtain ⟨A, c, hv, hl, hx, hc⟩ := h
  obtain ⟨b, o, rfl, hD, hb, hx⟩ := hc h0
  exact ⟨b, o, c, hv, hl, hD, hb, hx⟩
end

theorem Rd.slice {w : World} {D : Nat → Prop} {sz n : Nat} {v : Value} {xs : List Value} (h : Rd w D sz v n xs) : ∃ A c, v = .slice A n c := by
  obtain ⟨A, c, hv, _⟩ := h
  exact ⟨A, c, hv⟩

/-- blocks that are new since w -/
def Fr (w : World) : Nat → Prop := fun r => w.heap.size ≤ r
theorem Fr.of {w w' : World} (h : w.heap.size ≤ w'.heap.size) : ∀ r, Fr w' r → Fr w r := fun _ hr => Nat.le_trans h hr

/-- A SLICE OF THE CALL's OWN, in a block of D: the kit's 'ownsRow'. -/
structure OwnS (w : World) (D : Nat → Prop) (e : TypeId) (sz : Nat) (v : Value) (n : Nat) (xs : List Value) : Prop where
  row : w.ownsRow 0 e sz v n xs
  dom : ∀ g, v.ownBlock = some g → D g

section
variable {w w' : World} {S D D' : Nat → Prop} {e : TypeId} {sz n : Nat} {v : Value} {xs : List Value}
theorem OwnS.nil_ (w : World) (D : Nat → Prop) (e : TypeId) (sz : Nat) : OwnS w D e sz (.slice none 0 0) 0 [] := ⟨World.ownsRow_nil w 0 e sz, by simp [Value.ownBlock]⟩
theorem OwnS.mono (h : OwnS w D e sz v n xs) (hd : ∀ r, D r → r < w.heap.size → D' r) : OwnS w D' e sz v n xs := ⟨h.row, fun g hg => hd g (h.dom g hg) (h.row.lt g hg).2⟩
theorem OwnS.keep (h : OwnS w D e sz v n xs) (hm : Mod S w w') (hd : ∀ r, D r → r < w.heap.size → ¬ S r) : OwnS w' D e sz v n xs := by
  refine ⟨⟨h.row.1, ?_⟩, h.dom⟩
  rcases h.row.2 with hn | ⟨g, cap, cur, rfl, hb, hgg, rest⟩
  · exact .inl hn
  · exact .inr ⟨g, cap, cur, rfl, hb, hm.get hgg (hd g (h.dom g rfl) (blk_lt hgg)), rest⟩
theorem OwnS.rd (h : OwnS w D e sz v n xs) : Rd w D sz v n xs := by
  rcases h.row.2 with ⟨rfl, rfl⟩ | ⟨g, cap, cur, rfl, hb, hgg, hnc, hcm, hcs, htake⟩
  · exact ⟨none, 0, rfl, Nat.le_refl _, by simpa using h.row.1, fun h0 => absurd h0 (by omega)⟩
  · refine ⟨_, cap, rfl, hnc, h.row.1, fun _ => ⟨g, 0, rfl, h.dom g rfl, blk_lt hgg, fun i u hu => ?_⟩⟩
    have := h.row.cells (g := g) rfl i u hu
    rwa [Addr.add_lit] at this
theorem OwnS.made {g : Nat} {cs : List Value} (hb : w.heap[g]? = some (.cells cs.toArray e (0, 0))) (hD : D g) (n : Nat) (hn : n ≤ maxLen) (hs : cs.length = n * sz) : OwnS w D e sz (.slice (some ⟨g, 0, none⟩) n n) n cs :=
  ⟨⟨hs, .inr ⟨g, n, cs.toArray, rfl, Nat.zero_le _, hb, Nat.le_refl _, hn, by simpa using hs, by rw [← hs]; simp⟩⟩, fun g' hg' => by simp [Value.ownBlock] at hg'; subst hg'; exact hD⟩
end

end Go.SM
