/-
  The document's disk: what it is in memory; find, crashes, Arm, Down, Sectors, New.
-/
import Derived.Test.YthbicfbhghcmkaaGreatLive
import Derived.Test.YthbicfbhghcmkaaGreatDiskT
import Derived.Deep.RegionHeld3
namespace Go.SM
open Go Go.RowKit

/-- a cell of a row that the call owns is turned -/
theorem OwnS.set {w : World} {D : Nat → Prop} {e : TypeId} {sz n g c i : Nat} {xs : List Value} (h : OwnS w D e sz (.slice (some ⟨g, 0, none⟩) n c) n xs) (u : Value) :
    OwnS (w.setCell ⟨g, i, none⟩ u) D e sz (.slice (some ⟨g, 0, none⟩) n c) n (xs.set i u) := by
  refine ⟨⟨by rw [List.length_set]; exact h.row.1, ?_⟩, h.dom⟩
  rcases h.row.2 with ⟨h1, _⟩ | ⟨g', cap, cur, h1, h2, h3, h4, h5, h6, h7⟩
  · cases h1
  · cases h1
    refine .inr ⟨g, c, cur.setIfInBounds i u, rfl, h2, heap_setCell_same w g i _ _ u h3, h4, h5, by simpa using h6, ?_⟩
    rw [← h7]
    rw [Array.toList_setIfInBounds, List.take_set]

theorem OwnS.blk {w : World} {D : Nat → Prop} {e : TypeId} {sz n g c : Nat} {xs : List Value} (h : OwnS w D e sz (.slice (some ⟨g, 0, none⟩) n c) n xs) : ∃ cur, w.heap[g]? = some (.cells cur e (0, 0)) ∧ cur.toList.take (n * sz) = xs := by
  rcases h.row.2 with ⟨h1, _⟩ | ⟨g', cap, cur, h1, h2, h3, h4, h5, h6, h7⟩
  · cases h1
  · cases h1
    exact ⟨cur, h3, h7⟩

theorem OwnS.cell {w : World} {D : Nat → Prop} {e : TypeId} {sz n g c : Nat} {xs : List Value} (h : OwnS w D e sz (.slice (some ⟨g, 0, none⟩) n c) n xs) {i : Nat} {u : Value} (hu : xs[i]? = some u) : w.cell? ⟨g, i, none⟩ = some u := by
  have := h.row.cells (g := g) rfl i u hu
  rwa [Addr.add_lit, Nat.zero_add] at this

theorem OwnS.form {w : World} {D : Nat → Prop} {e : TypeId} {sz n : Nat} {v : Value} {xs : List Value} (h : OwnS w D e sz v n xs) : (v = .slice none 0 0 ∧ n = 0) ∨ ∃ g c, v = .slice (some ⟨g, 0, none⟩) n c ∧ D g ∧ g < w.heap.size := by
  rcases h.row.2 with ⟨h1, h2⟩ | ⟨g, cap, cur, h1, h2, h3, h4⟩
  · exact .inl ⟨h1, h2⟩
  · subst h1
    exact .inr ⟨g, cap, rfl, h.dom g rfl, blk_lt h3⟩
theorem OwnS.form1 {w : World} {D : Nat → Prop} {e : TypeId} {sz n : Nat} {v : Value} {xs : List Value} (h : OwnS w D e sz v n xs) (hn : 0 < n) : ∃ g c, v = .slice (some ⟨g, 0, none⟩) n c ∧ D g ∧ g < w.heap.size := by
  rcases h.form with ⟨_, h2⟩ | h2
  · omega
  · exact h2
theorem rd_block {w : World} {g sz n : Nat} {cs : List Value} {t : TypeId} {fr : Nat × Nat} (hb : w.heap[g]? = some (.cells cs.toArray t fr)) (hl : cs.length = n * sz) : Rd w (fun _ => True) sz (.slice (some ⟨g, 0, none⟩) n n) n cs :=
  ⟨_, _, rfl, Nat.le_refl _, hl, fun _ => ⟨g, 0, rfl, trivial, blk_lt hb, block_cells hb⟩⟩
theorem two_alloc (w : World) (o1 : Obj) (o2 : Obj) : ((w.alloc o1).alloc o2).heap[w.heap.size + 1]? = some o2 := by
  have h := heap_alloc_new (w.alloc o1) o2
  rwa [show (w.alloc o1).heap.size = w.heap.size + 1 by simp] at h
end Go.SM

namespace Go.Proofs.YthbicfbhghcmkaaGreat
open Go Go.RowKit Go.SM

/-- one sector that was ever written -/
structure RSec where
  n : Int
  lv : Value
  sv : Value
  lat : List UInt8
  saf : List UInt8
  op : Bool

def rcells : List RSec → List Value
  | [] => []
  | x :: l => .int .i64 x.n :: x.lv :: x.sv :: .bool x.op :: rcells l
theorem rcells_length (l : List RSec) : (rcells l).length = l.length * 4 := by
  induction l with
  | nil => rfl
  | cons x l ih => simp only [rcells, List.length_cons, ih]; omega
theorem rcells_append (l m : List RSec) : rcells (l ++ m) = rcells l ++ rcells m := by
  induction l with
  | nil => rfl
  | cons x l ih => simp only [List.cons_append, rcells, ih]
theorem rcells_get (l : List RSec) : ∀ (i : Nat) (h : i < l.length), (rcells l)[i * 4]? = some (.int .i64 l[i].n) ∧ (rcells l)[i * 4 + 1]? = some l[i].lv ∧ (rcells l)[i * 4 + 2]? = some l[i].sv ∧ (rcells l)[i * 4 + 3]? = some (.bool l[i].op) := by
  induction l with
  | nil => intro i h; simp at h
  | cons x l ih =>
    intro i h
    cases i with
    | zero => exact ⟨rfl, rfl, rfl, rfl⟩
    | succ i =>
      have hi : i < l.length := by simpa using h
      have e : (i + 1) * 4 = i * 4 + 4 := by omega
      obtain ⟨h0, h1, h2, h3⟩ := ih i hi
      rw [e]
      exact ⟨h0, h1, h2, h3⟩
theorem rcells_set (l : List RSec) : ∀ (i : Nat) (h : i < l.length),
    (∀ v b, (rcells l).set (i * 4 + 1) v = rcells (l.set i { l[i] with lv := v, lat := b })) ∧ (∀ v b, (rcells l).set (i * 4 + 2) v = rcells (l.set i { l[i] with sv := v, saf := b })) ∧ ∀ b, (rcells l).set (i * 4 + 3) (.bool b) = rcells (l.set i { l[i] with op := b }) := by
  induction l with
  | nil => intro i h; simp at h
  | cons x l ih =>
    intro i h
    cases i with
    | zero => exact ⟨fun _ _ => rfl, fun _ _ => rfl, fun _ => rfl⟩
    | succ i =>
      have hi : i < l.length := by simpa using h
      obtain ⟨h1, h2, h3⟩ := ih i hi
      have e : ∀ k, (i + 1) * 4 + k = i * 4 + k + 1 + 1 + 1 + 1 := by omega
      refine ⟨fun v b => ?_, fun v b => ?_, fun b => ?_⟩ <;> rw [e] <;> simp only [rcells, List.set_cons_succ, List.getElem_cons_succ]
      · rw [h1 v b]
      · rw [h2 v b]
      · rw [h3 b]

/-- what the sectors say of a disk's state -/
structure Rep (L : List RSec) (s : DS) : Prop where
  nodup : (L.map (·.n)).Nodup
  range : ∀ x ∈ L, 0 ≤ x.n ∧ x.n < s.n
  lat : ∀ x ∈ L, x.lat = latS s x.n
  saf : ∀ x ∈ L, x.saf = (s.fs x.n).getD zs
  shut : ∀ x ∈ L, x.op = true ∨ x.lat = x.saf
  rest : ∀ k, (∀ x ∈ L, x.n ≠ k) → s.fo k = none ∧ s.fs k = none

/-- blocks that are others' (x), of which some are of bytes that nobody turns (z) -/
structure XS where
  x : Nat → Prop
  z : Nat → Prop
instance : CoeFun XS (fun _ => Nat → Prop) := ⟨XS.x⟩
/-- blocks of bytes: neither the disk's, nor the row's, nor what is kept apart -/
def Byt (X : XS) (r : Nat) (lv : Value) : Nat → Prop := fun k => (X k → X.z k) ∧ k ≠ r ∧ lv.ownBlock ≠ some k
def refOwn (r : Nat) (lv : Value) : Nat → Prop := fun k => k = r ∨ lv.ownBlock = some k

/-- the document's disk in block r; B: all of it lies from there on; X: blocks that are others' -/
structure RefAt (w : World) (B : Nat) (X : XS) (r : Nat) (lv : Value) (L : List RSec) (s : DS) : Prop where
  cells : w.heap[r]? = some (.cells #[.int .i64 s.n, lv, .int .i64 s.armed, .bool s.down] 51 (0, 0))
  row : OwnS w (fun k => B ≤ k ∧ ¬ X k ∧ k ≠ r) 96 4 lv L.length (rcells L)
  bytes : ∀ x ∈ L, Rd w (Byt X r lv) 1 x.lv 512 (u8s x.lat) ∧ Rd w (Byt X r lv) 1 x.sv 512 (u8s x.saf)
  rep : Rep L s
  own : B ≤ r ∧ ¬ X r
  n1 : 1 ≤ s.n ∧ s.n ≤ 8192
  arm : 0 ≤ s.armed ∧ s.armed ≤ 9223372036854775807
  xb : ∀ k, X k → k < w.heap.size

def RefIs (w : World) (B : Nat) (X : XS) (r : Nat) (s : DS) : Prop := ∃ lv L, RefAt w B X r lv L s
/-- what a call may turn -/
def RM (B : Nat) (X : XS) : Nat → Prop := fun k => B ≤ k ∧ ¬ X k

section
variable {w w' : World} {B r : Nat} {X : XS} {S : Nat → Prop} {lv : Value} {L : List RSec} {s : DS}
theorem RefAt.rm (h : RefAt w B X r lv L s) : ∀ k, refOwn r lv k → RM B X k := by
  rintro k (rfl | hk)
  · exact h.own
  · have := h.row.dom k hk; exact ⟨this.1, this.2.1⟩
theorem RefAt.keep (h : RefAt w B X r lv L s) (hm : Mod S w w') (hS : ∀ k, S k → X k ∧ ¬ X.z k) : RefAt w' B X r lv L s :=
  ⟨hm.get h.cells (fun e => h.own.2 (hS _ e).1), h.row.keep hm (fun k hk _ e => hk.2.1 (hS k e).1), fun x hx => ⟨(h.bytes x hx).1.keep hm (fun k hk _ e => (hS k e).2 (hk.1 (hS k e).1)), (h.bytes x hx).2.keep hm (fun k hk _ e => (hS k e).2 (hk.1 (hS k e).1))⟩, h.rep, h.own, h.n1, h.arm, fun k e => Nat.lt_of_lt_of_le (h.xb k e) hm.size⟩
theorem RefAt.mono {X' : XS} (h : RefAt w B X r lv L s) (hX : ∀ k, k < w.heap.size → X' k → X k) (hz : ∀ k, k < w.heap.size → X' k → X.z k → X'.z k) (hb : ∀ k, X' k → k < w.heap.size) : RefAt w B X' r lv L s :=
  ⟨h.cells, h.row.mono (fun k hk hl => ⟨hk.1, fun e => hk.2.1 (hX k hl e), hk.2.2⟩), fun x hx => ⟨(h.bytes x hx).1.mono (fun k hk hl => ⟨fun e => hz k hl e (hk.1 (hX k hl e)), hk.2⟩), (h.bytes x hx).2.mono (fun k hk hl => ⟨fun e => hz k hl e (hk.1 (hX k hl e)), hk.2⟩)⟩, h.rep, ⟨h.own.1, fun e => h.own.2 (hX r (blk_lt h.cells) e)⟩, h.n1, h.arm, hb⟩
theorem RefIs.keep (h : RefIs w B X r s) (hm : Mod S w w') (hS : ∀ k, S k → X k ∧ ¬ X.z k) : RefIs w' B X r s := by
  obtain ⟨lv, L, h⟩ := h
  exact ⟨lv, L, h.keep hm hS⟩
theorem RefIs.mono {X' : XS} (h : RefIs w B X r s) (hX : ∀ k, k < w.heap.size → X' k → X k) (hz : ∀ k, k < w.heap.size → X' k → X.z k → X'.z k) (hb : ∀ k, X' k → k < w.heap.size) : RefIs w B X' r s := by
  obtain ⟨lv, L, h⟩ := h
  exact ⟨lv, L, h.mono hX hz hb⟩
/-- what is new is kept apart too -/
theorem RefAt.guard (h : RefAt w B X r lv L s) (hm : Mod S w w') (hS : ∀ k, S k → X k ∧ ¬ X.z k) : RefAt w' B ⟨fun k => X k ∨ (w.heap.size ≤ k ∧ k < w'.heap.size), X.z⟩ r lv L s := by
  have hx := h.xb
  refine ⟨hm.get h.cells (fun e => h.own.2 (hS _ e).1), ?_, fun x hx => ⟨?_, ?_⟩, h.rep, ⟨h.own.1, fun e => ?_⟩, h.n1, h.arm, fun k e => ?_⟩
  · exact (h.row.mono (D' := fun k => (B ≤ k ∧ ¬ X k ∧ k ≠ r) ∧ k < w.heap.size) (fun k hk hl => ⟨hk, hl⟩)).keep hm (fun k hk _ e => hk.1.2.1 (hS k e).1) |>.mono (fun k hk _ => ⟨hk.1.1, fun e => e.elim hk.1.2.1 (fun e => by have := hk.2; omega), hk.1.2.2⟩)
  · exact ((h.bytes x hx).1.mono (D' := fun k => Byt X r lv k ∧ k < w.heap.size) (fun k hk hl => ⟨hk, hl⟩)).keep hm (fun k hk _ e => (hS k e).2 (hk.1.1 (hS k e).1)) |>.mono (fun k hk _ => ⟨fun e => e.elim hk.1.1 (fun e => by have := hk.2; omega), hk.1.2⟩)
  · exact ((h.bytes x hx).2.mono (D' := fun k => Byt X r lv k ∧ k < w.heap.size) (fun k hk hl => ⟨hk, hl⟩)).keep hm (fun k hk _ e => (hS k e).2 (hk.1.1 (hS k e).1)) |>.mono (fun k hk _ => ⟨fun e => e.elim hk.1.1 (fun e => by have := hk.2; omega), hk.1.2⟩)
  · exact e.elim h.own.2 (fun e => by have := blk_lt h.cells; omega)
  · have := hm.size
    rcases e with e | e
    · have := hx k e; omega
    · exact e.2
theorem RefIs.guard (h : RefIs w B X r s) (hm : Mod S w w') (hS : ∀ k, S k → X k ∧ ¬ X.z k) : RefIs w' B ⟨fun k => X k ∨ (w.heap.size ≤ k ∧ k < w'.heap.size), X.z⟩ r s := by
  obtain ⟨lv, L, h⟩ := h
  exact ⟨lv, L, h.guard hm hS⟩

theorem RefAt.c0 (h : RefAt w B X r lv L s) : w.cell? ⟨r, 0, none⟩ = some (.int .i64 s.n) := by rw [cell_of_row w r 0 _ _ _ h.cells]; rfl
theorem RefAt.c1 (h : RefAt w B X r lv L s) : w.cell? ⟨r, 1, none⟩ = some lv := by rw [cell_of_row w r 1 _ _ _ h.cells]; rfl
theorem RefAt.c2 (h : RefAt w B X r lv L s) : w.cell? ⟨r, 2, none⟩ = some (.int .i64 s.armed) := by rw [cell_of_row w r 2 _ _ _ h.cells]; rfl
theorem RefAt.c3 (h : RefAt w B X r lv L s) : w.cell? ⟨r, 3, none⟩ = some (.bool s.down) := by rw [cell_of_row w r 3 _ _ _ h.cells]; rfl
theorem RefAt.fz (h : RefAt w B X r lv L s) (i : Nat) : w.frozen? ⟨r, i, none⟩ = false := frozen_of_row w r i _ _ h.cells
theorem RefAt.lvf (h : RefAt w B X r lv L s) : ∃ A c, lv = .slice A L.length c := by obtain ⟨A, c, hv, _⟩ := h.row.rd; exact ⟨A, c, hv⟩
theorem RefAt.at_ (h : RefAt w B X r lv L s) {i : Nat} (hi : i < L.length) : ∃ g c, lv = .slice (some ⟨g, 0, none⟩) L.length c ∧ g ≠ r ∧ w.frozen? ⟨g, i * 4 + 1, none⟩ = false ∧ w.frozen? ⟨g, i * 4 + 2, none⟩ = false ∧ w.frozen? ⟨g, i * 4 + 3, none⟩ = false ∧
    w.cell? ⟨g, i * 4, none⟩ = some (.int .i64 L[i].n) ∧ w.cell? ⟨g, i * 4 + 1, none⟩ = some L[i].lv ∧ w.cell? ⟨g, i * 4 + 2, none⟩ = some L[i].sv ∧ w.cell? ⟨g, i * 4 + 3, none⟩ = some (.bool L[i].op) := by
  rcases h.row.form with ⟨_, h2⟩ | ⟨g, c, rfl, hD, _⟩
  · omega
  · obtain ⟨h0, h1, h2, h3⟩ := rcells_get L i hi
    obtain ⟨cur, hb, _⟩ := h.row.blk
    exact ⟨g, c, rfl, hD.2.2, frozen_of_row w g _ _ _ hb, frozen_of_row w g _ _ _ hb, frozen_of_row w g _ _ _ hb, h.row.cell h0, h.row.cell h1, h.row.cell h2, h.row.cell h3⟩

/-- how many there are at most -/
theorem Rep.few {L : List RSec} {s : DS} (h : Rep L s) (hn : s.n ≤ 8192) : L.length ≤ 8192 := by
  have h1 := nodup_le h.nodup (m := (List.range 8192).map (fun k : Nat => (k : Int))) (fun x hx => by
    obtain ⟨y, hy, rfl⟩ := List.mem_map.1 hx
    have := h.range y hy
    exact List.mem_map.2 ⟨y.n.toNat, by simp; omega, by omega⟩)
  simpa using h1
end

/-- where a sector stands -/
def FindPost (L : List RSec) (n : Int) (w : World) (e : Ending) (w' : World) : Prop :=
  ((∃ i, ∃ h : i < L.length, L[i].n = n ∧ e = .returned (.int .i64 (i : Int))) ∨ ((∀ x ∈ L, x.n ≠ n) ∧ e = .returned (.int .i64 (-1)))) ∧ w = w'

set_option maxHeartbeats 1000000 in
theorem find_any {w : World} {B r : Nat} {X : XS} {lv : Value} {L : List RSec} {s : DS} (h : RefAt w B X r lv L s) (n : Int) :
    Calls Tryz.prog 42 #[.pointer (some ⟨r, 0, none⟩), .int .i64 n] w (FindPost L n w) := by
  obtain ⟨A, c, rfl⟩ := h.lvf
  have h1 := h.c1
  have hfew := h.rep.few h.n1.2
  have H := Lib.hid h
  clear h
  go_enter Tryz.func42, Tryz.ntmps42
  go_wp2_with fail
  go_loop [5] (fun i => ∃ j : Nat, i = .int .i64 j ∧ j ≤ L.length ∧ ∀ x ∈ L.take j, x.n ≠ n) (fun i => L.length - (intOf i).toNat)
  case atStart => exact ⟨0, rfl, Nat.zero_le _, by simp⟩
  case round =>
    obtain ⟨j, rfl, hj, ht⟩ := hrel
    have HT := Lib.hid ht
    clear ht
    by_cases hlt : j < L.length
    · obtain ⟨g, c', he, _, _, _, _, q0, _⟩ := H.out.at_ hlt
      simp only [Value.slice.injEq] at he
      obtain ⟨rfl, _, rfl⟩ := he
      have d1 : decide ((j : Int) < (L.length : Int)) = true := by simpa using hlt
      have d2 : (j : Int) < (L.length : Int) := by omega
      have HS := Lib.hid (show L.take (j + 1) = L.take j ++ [L[j]] from List.take_succ_eq_append_getElem hlt)
      by_cases e : L[j].n = n
      · have d3 : (L[j].n == n) = true := by simpa using e
        have HE := Lib.hid e
        clear e
        go_wp2_with fail
        go_ret
        exact ⟨.inl ⟨j, hlt, HE.out, rfl⟩, rfl⟩
      · have d3 : (L[j].n == n) = false := by simpa using e
        have HE := Lib.hid e
        clear e
        go_wp2_with fail
        go_round
        case rel =>
          refine ⟨j + 1, by go_num, by omega, fun x hx => ?_⟩
          rw [HS.out] at hx
          rcases List.mem_append.1 hx with hx | hx
          · exact HT.out x hx
          · simp only [List.mem_singleton] at hx; subst hx; exact HE.out
        case measure => simp [intOf]; omega
    · have d1 : decide ((j : Int) < (L.length : Int)) = false := by simpa using hlt
      go_wp2_with fail
      go_ret
      refine ⟨.inr ⟨fun x hx => ?_, rfl⟩, rfl⟩
      have := HT.out
      rw [List.take_of_length_le (by omega)] at this
      exact this x hx

theorem RefAt.set23 {w : World} {B r : Nat} {X : XS} {lv : Value} {L : List RSec} {s : DS} (h : RefAt w B X r lv L s) (x : Int) (d : Bool) (hx : 0 ≤ x ∧ x ≤ 9223372036854775807) :
    RefAt ((w.setCell ⟨r, 2, none⟩ (.int .i64 x)).setCell ⟨r, 3, none⟩ (.bool d)) B X r lv L { s with armed := x, down := d } := by
  have h1 := heap_setCell_same w r 2 _ _ (.int .i64 x) h.cells
  have h2 := heap_setCell_same _ r 3 _ _ (.bool d) h1
  have hm : Mod (· = r) w ((w.setCell ⟨r, 2, none⟩ (.int .i64 x)).setCell ⟨r, 3, none⟩ (.bool d)) :=
    ((Mod.refl (· = r) w).setCell (p := ⟨r, 2, none⟩) (.inl rfl) _).setCell (p := ⟨r, 3, none⟩) (.inl rfl) _
  exact ⟨h2, h.row.keep hm (fun k hk _ e => hk.2.2 e), fun y hy => ⟨(h.bytes y hy).1.keep hm (fun k hk _ e => hk.2.1 e), (h.bytes y hy).2.keep hm (fun k hk _ e => hk.2.1 e)⟩, ⟨h.rep.nodup, h.rep.range, h.rep.lat, h.rep.saf, h.rep.shut, h.rep.rest⟩, h.own, h.n1, hx, fun k e => Nat.lt_of_lt_of_le (h.xb k e) hm.size⟩

theorem rcrash_any {w : World} {B r : Nat} {X : XS} {lv : Value} {L : List RSec} {s : DS} (h : RefAt w B X r lv L s) (hd : s.down = false) :
    Calls Tryz.prog 43 #[.pointer (some ⟨r, 0, none⟩)] w fun e w' => e = .returned (.bool (crashS s).down) ∧ RefAt w' B X r lv L (crashS s) ∧ Mod (· = r) w w' ∧ w'.heap.size = w.heap.size := by
  have h2 := h.c2
  have h3 := h.c3
  have f2 := h.fz 2
  have f3 := h.fz 3
  have ha := h.arm
  have hm2 : Mod (· = r) w ((w.setCell ⟨r, 2, none⟩ (.int .i64 (s.armed - 1))).setCell ⟨r, 3, none⟩ (.bool (s.armed - 1 == 0))) :=
    ((Mod.refl (· = r) w).setCell (p := ⟨r, 2, none⟩) (.inl rfl) _).setCell (p := ⟨r, 3, none⟩) (.inl rfl) _
  by_cases hp : 0 < s.armed
  · have HD := Lib.hid (h.set23 (s.armed - 1) (s.armed - 1 == 0) (by omega))
    have HM := Lib.hid hm2
    have e1 : crashS s = { s with armed := s.armed - 1, down := (s.armed - 1 == 0) } := by unfold crashS; rw [if_pos hp]; rfl
    rw [e1]
    have d1 : decide (s.armed < 1) = false := by simp; omega
    clear e1 h hm2 hd
    go_enter Tryz.func43, Tryz.ntmps43
    go_wp2
    go_ret
    exact ⟨rfl, HD.out, HM.out, by simp⟩
  · have HD := Lib.hid h
    have e1 : crashS s = s := by unfold crashS; rw [if_neg hp]
    have d1 : decide (s.armed < 1) = true := by simp; omega
    rw [e1, hd]
    clear e1 h hm2 hd
    go_enter Tryz.func43, Tryz.ntmps43
    go_wp2
    go_ret
    exact ⟨rfl, HD.out, Mod.refl _ _, rfl⟩

section
variable {w : World} {B r : Nat} {X : XS} {s : DS}
theorem rf_down (h : RefIs w B X r s) : Calls Tryz.prog 34 #[.pointer (some ⟨r, 0, none⟩)] w fun e w' => e = .returned (.bool s.down) ∧ w = w' := by
  obtain ⟨lv, L, h⟩ := h
  have h3 := h.c3
  clear h
  go_enter Tryz.func34, Tryz.ntmps34
  go_wp2
  go_ret
  exact ⟨rfl, rfl⟩

theorem rf_sectors (h : RefIs w B X r s) : Calls Tryz.prog 35 #[.pointer (some ⟨r, 0, none⟩)] w fun e w' => e = .returned (.int .i64 s.n) ∧ w = w' := by
  obtain ⟨lv, L, h⟩ := h
  have h0 := h.c0
  clear h
  go_enter Tryz.func35, Tryz.ntmps35
  go_wp2
  go_ret
  exact ⟨rfl, rfl⟩

theorem RefAt.set2 {lv : Value} {L : List RSec} (h : RefAt w B X r lv L s) (x : Int) (hx : 0 ≤ x ∧ x ≤ 9223372036854775807) :
    RefAt (w.setCell ⟨r, 2, none⟩ (.int .i64 x)) B X r lv L { s with armed := x } := by
  have h1 := heap_setCell_same w r 2 _ _ (.int .i64 x) h.cells
  have hm : Mod (· = r) w (w.setCell ⟨r, 2, none⟩ (.int .i64 x)) := (Mod.refl (· = r) w).setCell (p := ⟨r, 2, none⟩) (.inl rfl) _
  exact ⟨h1, h.row.keep hm (fun k hk _ e => hk.2.2 e), fun y hy => ⟨(h.bytes y hy).1.keep hm (fun k hk _ e => hk.2.1 e), (h.bytes y hy).2.keep hm (fun k hk _ e => hk.2.1 e)⟩, ⟨h.rep.nodup, h.rep.range, h.rep.lat, h.rep.saf, h.rep.shut, h.rep.rest⟩, h.own, h.n1, hx, fun k e => Nat.lt_of_lt_of_le (h.xb k e) hm.size⟩

theorem rf_arm (h : RefIs w B X r s) (n : Int) (hn : n ≤ 9223372036854775807) :
    Calls Tryz.prog 28 #[.pointer (some ⟨r, 0, none⟩), .int .i64 n] w fun e w' => e = .returned (.tuple #[]) ∧ RefIs w' B X r (armS s n) ∧ Mod (RM B X) w w' := by
  obtain ⟨lv, L, h⟩ := h
  have h3 := h.c3
  have h2 := h.c2
  have f2 := h.fz 2
  have hm2 : ∀ x, Mod (RM B X) w (w.setCell ⟨r, 2, none⟩ (.int .i64 x)) := fun x => (Mod.refl (RM B X) w).setCell (p := ⟨r, 2, none⟩) (.inl h.own) _
  cases hd : s.down with
  | true =>
    rw [hd] at h3
    have HD := Lib.hid h
    have e1 : armS s n = s := by unfold armS; rw [if_pos hd]
    rw [e1]
    clear e1 h hm2 hd
    go_enter Tryz.func28, Tryz.ntmps28
    go_wp2
    go_end0
    exact ⟨rfl, ⟨_, _, HD.out⟩, Mod.refl _ _⟩
  | false =>
    rw [hd] at h3
    have e1 : armS s n = { s with armed := max n 0 } := by unfold armS; rw [hd]; rfl
    have HD := Lib.hid (fun x hx => h.set2 x hx)
    have HM := Lib.hid hm2
    rw [e1]
    clear e1 h hm2 hd
    go_enter Tryz.func28, Tryz.ntmps28
    go_wp2
    · go_end0
      have e : max n 0 = 0 := by omega
      rw [e]
      exact ⟨rfl, ⟨_, _, HD.out 0 (by omega)⟩, HM.out 0⟩
    · go_end0
      have e : max n 0 = n := by omega
      rw [e]
      exact ⟨rfl, ⟨_, _, HD.out n (by omega)⟩, HM.out n⟩
end

theorem rf_new_no (n : Int) (w : World) (h : n < 1 ∨ 8192 < n) : Calls Tryz.prog 5 #[.int .i64 n] w fun e w' => e = .returned (.pointer none) ∧ w = w' := by
  by_cases h1 : n < 1
  · have d1 : decide (n < 1) = true := by simpa using h1
    clear h
    go_enter Tryz.func5, Tryz.ntmps5
    go_wp2
    go_ret
    exact ⟨rfl, rfl⟩
  · have d1 : decide (n < 1) = false := by simpa using h1
    have d2 : decide (8192 < n) = true := by simp; omega
    clear h
    go_enter Tryz.func5, Tryz.ntmps5
    go_wp2
    go_ret
    exact ⟨rfl, rfl⟩

theorem rf_new (n : Int) (w : World) (B : Nat) (X : XS) (h : 1 ≤ n ∧ n ≤ 8192) (hB : B ≤ w.heap.size) (hX : ∀ k, X k → k < w.heap.size) :
    Calls Tryz.prog 5 #[.int .i64 n] w fun e w' => ∃ r, e = .returned (.pointer (some ⟨r, 0, none⟩)) ∧ RefIs w' B X r (newS n) ∧ Mod none_ w w' := by
  have d1 : decide (n < 1) = false := by simp; omega
  have d2 : decide (8192 < n) = false := by simp; omega
  have H := Lib.hid h
  have HX := Lib.hid hX
  clear h hX
  go_enter Tryz.func5, Tryz.ntmps5
  go_wp2_with (with_reducible refine at_ (o := ⟨some 11, _, _, _, _, _⟩) ?_)
  refine un (wpList_box rfl 51 _ rfl #[.int .i64 n, .slice none 0 0, .int .i64 0, .bool false] rfl ?_)
  intro w3 g3 hb3 hm3 hs3
  go_frame
  go_wp2
  go_ret
  refine ⟨g3, rfl, ⟨.slice none 0 0, [], hb3, OwnS.nil_ _ _ _ _, by simp, ⟨by simp, by simp, by simp, by simp, by simp, fun _ _ => ⟨rfl, rfl⟩⟩, ⟨by omega, fun e => by have := HX.out _ e; omega⟩, H.out, by simp [newS], fun k e => Nat.lt_of_lt_of_le (HX.out k e) hm3.size⟩, hm3⟩

end Go.Proofs.YthbicfbhghcmkaaGreat
