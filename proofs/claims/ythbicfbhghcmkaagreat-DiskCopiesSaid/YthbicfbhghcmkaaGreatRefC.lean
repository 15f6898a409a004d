/-
  The document's disk: Write.
-/
import Derived.Test.YthbicfbhghcmkaaGreatRefB
import Derived.Deep.DeepCutAuto
import Derived.Deep.RegionLaw
namespace Go.Proofs.YthbicfbhghcmkaaGreat
open Go Go.RowKit Go.SM

/-- a disk one of whose sectors, the i-th, is being written -/
structure RefPre (w : World) (B : Nat) (X : XS) (r : Nat) (lv : Value) (L : List RSec) (i : Nat) (n : Int) (s : DS) : Prop where
  cells : w.heap[r]? = some (.cells #[.int .i64 s.n, lv, .int .i64 s.armed, .bool s.down] 51 (0, 0))
  row : OwnS w (fun k => B ≤ k ∧ ¬ X k ∧ k ≠ r) 96 4 lv L.length (rcells L)
  hi : ∃ h : i < L.length, L[i].n = n
  bytes : ∀ j (h : j < L.length), (j ≠ i → Rd w (Byt X r lv) 1 L[j].lv 512 (u8s L[j].lat)) ∧ Rd w (Byt X r lv) 1 L[j].sv 512 (u8s L[j].saf)
  nodup : (L.map (·.n)).Nodup
  range : ∀ x ∈ L, 0 ≤ x.n ∧ x.n < s.n
  lat : ∀ j (h : j < L.length), j ≠ i → L[j].lat = latS s L[j].n ∧ (L[j].op = true ∨ L[j].lat = L[j].saf)
  saf : ∀ x ∈ L, x.saf = (s.fs x.n).getD zs
  rest : ∀ k, (∀ x ∈ L, x.n ≠ k) → s.fo k = none ∧ s.fs k = none
  own : B ≤ r ∧ ¬ X r
  n1 : 1 ≤ s.n ∧ s.n ≤ 8192
  arm : 0 ≤ s.armed ∧ s.armed ≤ 9223372036854775807
  xb : ∀ k, X k → k < w.heap.size

section
variable {w w' : World} {B r i : Nat} {X : XS} {S : Nat → Prop} {lv : Value} {L : List RSec} {s : DS} {n : Int}
theorem RefPre.of (h : RefAt w B X r lv L s) (hi : i < L.length) (hn : L[i].n = n) : RefPre w B X r lv L i n s :=
  ⟨h.cells, h.row, ⟨hi, hn⟩, fun _ hj => ⟨fun _ => (h.bytes _ (List.getElem_mem hj)).1, (h.bytes _ (List.getElem_mem hj)).2⟩, h.rep.nodup, h.rep.range, fun _ hj _ => ⟨h.rep.lat _ (List.getElem_mem hj), h.rep.shut _ (List.getElem_mem hj)⟩, h.rep.saf, h.rep.rest, h.own, h.n1, h.arm, h.xb⟩
theorem RefPre.keep (h : RefPre w B X r lv L i n s) (hm : Mod S w w') (hS : ∀ k, S k → X k ∧ ¬ X.z k) : RefPre w' B X r lv L i n s :=
  ⟨hm.get h.cells (fun e => h.own.2 (hS _ e).1), h.row.keep hm (fun k hk _ e => hk.2.1 (hS k e).1), h.hi, fun _ hj => ⟨fun hji => ((h.bytes _ hj).1 hji).keep hm (fun k hk _ e => (hS k e).2 (hk.1 (hS k e).1)), (h.bytes _ hj).2.keep hm (fun k hk _ e => (hS k e).2 (hk.1 (hS k e).1))⟩, h.nodup, h.range, h.lat, h.saf, h.rest, h.own, h.n1, h.arm, fun k e => Nat.lt_of_lt_of_le (h.xb k e) hm.size⟩
theorem RefPre.c1 (h : RefPre w B X r lv L i n s) : w.cell? ⟨r, 1, none⟩ = some lv := by rw [cell_of_row w r 1 _ _ _ h.cells]; rfl
theorem RefPre.at_ (h : RefPre w B X r lv L i n s) : ∃ g c, lv = .slice (some ⟨g, 0, none⟩) L.length c ∧ g ≠ r ∧ (B ≤ g ∧ ¬ X g) ∧ w.frozen? ⟨g, i * 4 + 1, none⟩ = false ∧ w.frozen? ⟨g, i * 4 + 3, none⟩ = false ∧ (∃ u, w.cell? ⟨g, i * 4 + 1, none⟩ = some u) ∧ (∃ u, w.cell? ⟨g, i * 4 + 3, none⟩ = some u) := by
  obtain ⟨hi, _⟩ := h.hi
  rcases h.row.form with ⟨_, h2⟩ | ⟨g, c, rfl, hD, _⟩
  · omega
  · obtain ⟨h0, h1, h2, h3⟩ := rcells_get L i hi
    obtain ⟨cur, hb, _⟩ := h.row.blk
    exact ⟨g, c, rfl, hD.2.2, ⟨hD.1, hD.2.1⟩, frozen_of_row w g _ _ _ hb, frozen_of_row w g _ _ _ hb, ⟨_, h.row.cell h1⟩, ⟨_, h.row.cell h3⟩⟩

/-- the sector's new bytes are laid -/
theorem RefPre.fin {g c : Nat} (h : RefPre w B X r (.slice (some ⟨g, 0, none⟩) L.length c) L i n s) {v : Value} {l : List UInt8} (hl : Rd w (Byt X r (.slice (some ⟨g, 0, none⟩) L.length c)) 1 v 512 (u8s l)) :
    RefIs ((w.setCell ⟨g, i * 4 + 1, none⟩ v).setCell ⟨g, i * 4 + 3, none⟩ (.bool true)) B X r { s with fo := put s.fo n l } ∧ Mod (RM B X) w ((w.setCell ⟨g, i * 4 + 1, none⟩ v).setCell ⟨g, i * 4 + 3, none⟩ (.bool true)) := by
  obtain ⟨hi, hn⟩ := h.hi
  have hD : B ≤ g ∧ ¬ X g ∧ g ≠ r := h.row.dom g rfl
  have hm : Mod (· = g) w ((w.setCell ⟨g, i * 4 + 1, none⟩ v).setCell ⟨g, i * 4 + 3, none⟩ (.bool true)) :=
    ((Mod.refl (· = g) w).setCell (p := ⟨g, i * 4 + 1, none⟩) (.inl rfl) _).setCell (p := ⟨g, i * 4 + 3, none⟩) (.inl rfl) _
  have hby : ∀ k, Byt X r (.slice (some ⟨g, 0, none⟩) L.length c) k → ¬ k = g := fun k hk e => hk.2.2 (by rw [e]; rfl)
  refine ⟨⟨.slice (some ⟨g, 0, none⟩) L.length c, L.set i { L[i] with lv := v, lat := l, op := true }, ?_⟩, hm.mono (fun k _ e => by subst e; exact ⟨hD.1, hD.2.1⟩)⟩
  have hrow := (h.row.set (i := i * 4 + 1) v).set (i := i * 4 + 3) (.bool true)
  have e1 : ((rcells L).set (i * 4 + 1) v).set (i * 4 + 3) (.bool true) = rcells (L.set i { L[i] with lv := v, lat := l, op := true }) := by
    rw [(rcells_set L i hi).1 v l, (rcells_set (L.set i { L[i] with lv := v, lat := l }) i (by rw [List.length_set]; exact hi)).2.2 true, List.set_set]
    simp
  rw [e1] at hrow
  have hget : ∀ j (hj : j < (L.set i { L[i] with lv := v, lat := l, op := true }).length), (L.set i { L[i] with lv := v, lat := l, op := true })[j] = if i = j then { L[i] with lv := v, lat := l, op := true } else L[j]'(by simpa using hj) := fun j hj => by rw [List.getElem_set]
  have hne : ∀ j (hj : j < L.length), j ≠ i → L[j].n ≠ n := fun j hj hji e => by
    rw [← hn] at e
    have h1 : (L.map (·.n))[j]'(by simpa using hj) = (L.map (·.n))[i]'(by simpa using hi) := by simpa using e
    exact hji ((List.getElem_inj h.nodup).1 h1)
  have hmap : (L.set i { L[i] with lv := v, lat := l, op := true }).map (·.n) = L.map (·.n) := by
    rw [List.map_set]
    apply List.ext_getElem (by simp)
    intro j h1 h2
    rw [List.getElem_set]
    split
    · rename_i e; subst e; simp
    · rfl
  have hmem : ∀ x ∈ L.set i { L[i] with lv := v, lat := l, op := true }, ∃ j, ∃ hj : j < L.length, x = if i = j then { L[i] with lv := v, lat := l, op := true } else L[j] := by
    intro x hx
    obtain ⟨j, hj, rfl⟩ := List.getElem_of_mem hx
    exact ⟨j, by simpa using hj, hget j hj⟩
  refine ⟨hm.get h.cells (fun e => hD.2.2 e.symm), by rw [List.length_set]; exact hrow, fun x hx => ?_, ⟨by rw [hmap]; exact h.nodup, fun x hx => ?_, fun x hx => ?_, fun x hx => ?_, fun x hx => ?_, fun k hk => ?_⟩, h.own, h.n1, h.arm, fun k e => Nat.lt_of_lt_of_le (h.xb k e) hm.size⟩
  · obtain ⟨j, hj, rfl⟩ := hmem x hx
    by_cases e : i = j
    · rw [if_pos e]
      exact ⟨hl.keep hm (fun k hk _ => hby k hk), (h.bytes i hi).2.keep hm (fun k hk _ => hby k hk)⟩
    · rw [if_neg e]
      exact ⟨((h.bytes j hj).1 (fun h => e h.symm)).keep hm (fun k hk _ => hby k hk), (h.bytes j hj).2.keep hm (fun k hk _ => hby k hk)⟩
  · obtain ⟨j, hj, rfl⟩ := hmem x hx
    by_cases e : i = j
    · rw [if_pos e]; exact h.range L[i] (List.getElem_mem hi)
    · rw [if_neg e]; exact h.range _ (List.getElem_mem hj)
  · obtain ⟨j, hj, rfl⟩ := hmem x hx
    by_cases e : i = j
    · rw [if_pos e]
      show l = latS { s with fo := put s.fo n l } L[i].n
      rw [hn]
      simp [latS, put]
    · rw [if_neg e]
      have h1 := hne j hj (fun h => e h.symm)
      rw [(h.lat j hj (fun h => e h.symm)).1]
      simp [latS, put, h1]
  · obtain ⟨j, hj, rfl⟩ := hmem x hx
    by_cases e : i = j
    · rw [if_pos e]; exact h.saf L[i] (List.getElem_mem hi)
    · rw [if_neg e]; exact h.saf _ (List.getElem_mem hj)
  · obtain ⟨j, hj, rfl⟩ := hmem x hx
    by_cases e : i = j
    · rw [if_pos e]; exact .inl rfl
    · rw [if_neg e]; exact (h.lat j hj (fun h => e h.symm)).2
  · have hk' : ∀ x ∈ L, x.n ≠ k := fun x hx => by
      obtain ⟨j, hj, rfl⟩ := List.getElem_of_mem hx
      have hmk : (L.set i { L[i] with lv := v, lat := l, op := true })[j]'(by simpa using hj) ∈ L.set i { L[i] with lv := v, lat := l, op := true } := List.getElem_mem _
      have := hk _ hmk
      rw [hget j (by simpa using hj)] at this
      split at this
      · rename_i e; subst e; exact this
      · exact this
    obtain ⟨h1, h2⟩ := h.rest k hk'
    have hkn : k ≠ n := fun e => hk' _ (List.getElem_mem hi) (by rw [hn, e])
    exact ⟨by show put s.fo n l k = none; unfold put; rw [if_neg hkn]; exact h1, h2⟩

/-- a sector that was never written is laid behind the others -/
theorem RefPre.new {lv' : Value} (h : RefAt w B X r lv L s) (hm : Mod (fun k => k = r ∨ lv.ownBlock = some k) w w')
    (hc : w'.heap[r]? = some (.cells #[.int .i64 s.n, lv', .int .i64 s.armed, .bool s.down] 51 (0, 0))) {sv : Value}
    (hrow : OwnS w' (fun k => B ≤ k ∧ ¬ X k ∧ k ≠ r) 96 4 lv' (L.length + 1) (rcells L ++ [.int .i64 n, .slice none 0 0, sv, .bool false]))
    (hlv : lv'.ownBlock = lv.ownBlock ∨ ∀ g, lv'.ownBlock = some g → w.heap.size ≤ g)
    (hsv : Rd w' (Byt X r lv') 1 sv 512 (u8s zs)) (hno : ∀ x ∈ L, x.n ≠ n) (hn : 0 ≤ n ∧ n < s.n) :
    RefPre w' B X r lv' (L ++ [⟨n, .slice none 0 0, sv, [], zs, false⟩]) L.length n s := by
  have hby : ∀ k, Byt X r lv k → k < w.heap.size → Byt X r lv' k := fun k hk hlt => ⟨hk.1, hk.2.1, by
    rcases hlv with e | e
    · rw [e]; exact hk.2.2
    · intro e2; have := e k e2; omega⟩
  have hkeep : ∀ {v : Value} {xs : List Value}, Rd w (Byt X r lv) 1 v 512 xs → Rd w' (Byt X r lv') 1 v 512 xs := fun hr =>
    ((hr.mono (D' := fun k => Byt X r lv k ∧ Byt X r lv' k) (fun k hk hlt => ⟨hk, hby k hk hlt⟩)).keep hm (fun k hk _ e => by
      rcases e with e | e
      · exact hk.1.2.1 e
      · exact hk.1.2.2 e)).mono (fun k hk _ => hk.2)
  obtain ⟨r1, r2⟩ := h.rep.rest n hno
  refine ⟨hc, by rw [List.length_append, rcells_append]; exact hrow, ⟨by simp, by simp⟩, fun j hj => ?_, ?_, fun x hx => ?_, fun j hj hne => ?_, fun x hx => ?_, fun k hk => ?_, h.own, h.n1, h.arm, fun k e => Nat.lt_of_lt_of_le (h.xb k e) hm.size⟩
  · by_cases e : j < L.length
    · rw [List.getElem_append_left e]
      exact ⟨fun _ => hkeep (h.bytes _ (List.getElem_mem e)).1, hkeep (h.bytes _ (List.getElem_mem e)).2⟩
    · have : j = L.length := by simp at hj; omega
      subst this
      refine ⟨fun h => absurd rfl h, ?_⟩
      rw [List.getElem_append_right (Nat.le_refl _)]
      simpa using hsv
  · rw [List.map_append, List.nodup_append]
    refine ⟨h.rep.nodup, by simp, ?_⟩
    intro a ha b hb
    simp only [List.map_cons, List.map_nil, List.mem_singleton] at hb
    subst hb
    obtain ⟨x, hx, rfl⟩ := List.mem_map.1 ha
    exact hno x hx
  · rcases List.mem_append.1 hx with hx | hx
    · exact h.rep.range x hx
    · simp only [List.mem_singleton] at hx; subst hx; exact hn
  · have e : j < L.length := by simp at hj; omega
    rw [List.getElem_append_left e]
    exact ⟨h.rep.lat _ (List.getElem_mem e), h.rep.shut _ (List.getElem_mem e)⟩
  · rcases List.mem_append.1 hx with hx | hx
    · exact h.rep.saf x hx
    · simp only [List.mem_singleton] at hx
      subst hx
      show zs = _
      rw [r2]
      rfl
  · exact h.rep.rest k (fun x hx => hk x (List.mem_append_left _ hx))
end

theorem two_alloc0 (w : World) (o1 : Obj) (o2 : Obj) : ((w.alloc o1).alloc o2).heap[w.heap.size]? = some o1 := by
  have h := heap_alloc_new w o1
  exact (Below.heap_alloc (w.alloc o1) o2 w.heap.size (by simp)).trans h

theorem RefPre.made {w W w5 : World} {B r g5 c5 : Nat} {X : XS} {lv : Value} {L : List RSec} {s : DS} {n : Int} (h : RefAt w B X r lv L s) (hW : Mod none_ w W) (hsz : W.heap.size = w.heap.size + 2) (hz : W.heap[w.heap.size]? = some (.cells (u8s zs).toArray 5 (0, 0)))
    (ho : OwnS w5 (fun k => lv.ownBlock = some k ∧ k ≠ r ∨ w.heap.size + 2 ≤ k) 96 4 (.slice (some ⟨g5, 0, none⟩) (L.length + 1) c5) (L.length + 1) (rcells L ++ [.int .i64 n, .slice none 0 0, .slice (some ⟨w.heap.size, 0, none⟩) 512 512, .bool false]))
    (hm : Mod (fun k => lv.ownBlock = some k ∧ k ≠ r ∨ w.heap.size + 2 ≤ k) W w5) (hb : (Value.slice (some ⟨g5, 0, none⟩) (L.length + 1) c5).ownBlock = lv.ownBlock ∨ (Value.slice (some ⟨g5, 0, none⟩) (L.length + 1) c5).ownBlock = some W.heap.size)
    (hno : ∀ x ∈ L, x.n ≠ n) (hn : 0 ≤ n ∧ n < s.n) :
    RefPre (w5.setCell ⟨r, 1, none⟩ (.slice (some ⟨g5, 0, none⟩) (L.length + 1) c5)) B X r (.slice (some ⟨g5, 0, none⟩) (L.length + 1) c5) (L ++ [⟨n, .slice none 0 0, .slice (some ⟨w.heap.size, 0, none⟩) 512 512, [], zs, false⟩]) L.length n s ∧
    Mod (RM B X) w (w5.setCell ⟨r, 1, none⟩ (.slice (some ⟨g5, 0, none⟩) (L.length + 1) c5)) := by
  have hr := blk_lt h.cells
  have hnr : ¬ (lv.ownBlock = some r ∧ r ≠ r ∨ w.heap.size + 2 ≤ r) := fun e => e.elim (fun e => e.2 rfl) (fun e => by omega)
  have hnz : ¬ (lv.ownBlock = some w.heap.size ∧ w.heap.size ≠ r ∨ w.heap.size + 2 ≤ w.heap.size) := fun e => e.elim (fun e => by have := (h.row.row.lt _ e.1).2; omega) (fun e => by omega)
  have hc5 : w5.heap[r]? = some (.cells #[.int .i64 s.n, lv, .int .i64 s.armed, .bool s.down] 51 (0, 0)) := hm.get (hW.get h.cells (fun e => e)) hnr
  have hms : Mod (· = r) w5 (w5.setCell ⟨r, 1, none⟩ (.slice (some ⟨g5, 0, none⟩) (L.length + 1) c5)) := (Mod.refl (· = r) w5).setCell (p := ⟨r, 1, none⟩) (.inl rfl) _
  have hm1 : Mod (fun k => k = r ∨ lv.ownBlock = some k) w (w5.setCell ⟨r, 1, none⟩ (.slice (some ⟨g5, 0, none⟩) (L.length + 1) c5)) :=
    ((hW.mono (S' := fun k => k = r ∨ lv.ownBlock = some k) (fun _ _ e => e.elim)).trans hm (fun k e hk => e.elim (fun e => .inr e.1) (fun e => by omega))).trans hms (fun k e _ => .inl e)
  have hdom : ∀ k, (lv.ownBlock = some k ∧ k ≠ r ∨ w.heap.size + 2 ≤ k) → B ≤ k ∧ ¬ X k ∧ k ≠ r := fun k e => by
    rcases e with e | e
    · exact h.row.dom k e.1
    · exact ⟨by have := h.own.1; omega, fun e2 => by have := h.xb k e2; omega, by omega⟩
  refine ⟨RefPre.new h hm1 (heap_setCell_same w5 r 1 _ _ _ hc5) ((ho.keep hms (fun k hk _ e => hnr (e ▸ hk))).mono (fun k hk _ => hdom k hk)) ?_ ?_ hno hn, hm1.mono (fun k hk e => h.rm k e)⟩
  · rcases hb with e | e
    · exact .inl e
    · refine .inr (fun g hg => ?_)
      rw [e] at hg
      injection hg with hg
      omega
  · have hz6 : (w5.setCell ⟨r, 1, none⟩ (.slice (some ⟨g5, 0, none⟩) (L.length + 1) c5)).heap[w.heap.size]? = some (.cells (u8s zs).toArray 5 (0, 0)) := hms.get (hm.get hz hnz) (fun e => by omega)
    refine ⟨_, _, rfl, Nat.le_refl _, by rw [length_u8s, zs_length], fun _ => ⟨w.heap.size, 0, rfl, ⟨fun e => by have := h.xb _ e; omega, by omega, fun e => ?_⟩, blk_lt hz6, block_cells hz6⟩⟩
    rcases hb with e2 | e2
    · rw [e2] at e
      have := (h.row.row.lt _ e).2
      omega
    · rw [e2] at e
      injection e with e
      omega

theorem run_mk512 (w : World) : (Instr.makeSlice 37 (.int .i64 512) (.int .i64 512)).run Tryz.prog w = .ok (.slice (some ⟨w.heap.size, 0, none⟩) 512 512) (w.alloc (.cells (u8s zs).toArray 5)) := by
  obtain ⟨i, h1, h2, h3, h4⟩ := info_parts binfo
  have hr := run_make (P := Tryz.prog) w 37 5 i (.int .u8 0) Tryz.underlying37 h1 h2 .i64 .i64 512 512 (by omega) (by omega) (by rw [h4]; omega) (by omega)
  have e1 : madeCells (Value.int .u8 0).cells 512 = (u8s zs).toArray := by
    apply Array.ext'
    rw [show (Value.int .u8 0).cells = #[Value.int .u8 0] from rfl, toList_madeCells_one, u8s, zs, List.map_replicate]
    rfl
  rw [h3] at hr
  simp only [Nat.mul_one] at hr
  rw [show (512 : Int).toNat = 512 from rfl, e1] at hr
  exact hr

set_option maxHeartbeats 4000000 in
set_option maxRecDepth 100000 in
theorem rf_write {w : World} {B r : Nat} {X : XS} {s : DS} (h : RefIs w B X r s) (n : Int) {D : Nat → Prop} {v : Value} {l : List UInt8} (hx : Rd w D 1 v l.length (u8s l)) (hD : ∀ k, D k → k < w.heap.size → ¬ RM B X k) :
    Calls Tryz.prog 23 #[.pointer (some ⟨r, 0, none⟩), .int .i64 n, v] w fun e w' => e = .returned (.int .i64 (writeT s n l).1) ∧ RefIs w' B X r (writeT s n l).2 ∧ Mod (RM B X) w w' := by
  obtain ⟨lv, L, h⟩ := h
  have h0 := h.c0
  have h3 := h.c3
  obtain ⟨A, c, rfl⟩ := hx.slice
  unfold writeT
  cases hd : s.down with
  | true =>
    rw [hd] at h3
    have e1 : mayE s n = 8 := by unfold mayE; rw [hd]; rfl
    rw [e1, if_pos (by omega)]
    have H := Lib.hid h
    clear h hd e1
    go_enter Tryz.func23, Tryz.ntmps23
    go_wp2
    go_ret
    exact ⟨rfl, ⟨_, _, H.out⟩, Mod.refl _ _⟩
  | false =>
    rw [hd] at h3
    by_cases hn : n < 0
    · have e1 : mayE s n = 6 := by unfold mayE; rw [hd]; simp [hn]
      have d1 : decide (n < 0) = true := by simpa using hn
      rw [e1, if_pos (by omega)]
      have H := Lib.hid h
      clear h hd e1
      go_enter Tryz.func23, Tryz.ntmps23
      go_wp2
      go_ret
      exact ⟨rfl, ⟨_, _, H.out⟩, Mod.refl _ _⟩
    · have d1 : decide (n < 0) = false := by simpa using hn
      by_cases hm : s.n ≤ n
      · have e1 : mayE s n = 6 := by unfold mayE; rw [hd]; simp [hm]
        have d2 : decide (s.n ≤ n) = true := by simpa using hm
        rw [e1, if_pos (by omega)]
        have H := Lib.hid h
        clear h hd e1
        go_enter Tryz.func23, Tryz.ntmps23
        go_wp2
        go_ret
        exact ⟨rfl, ⟨_, _, H.out⟩, Mod.refl _ _⟩
      · have e1 : mayE s n = 0 := mayE_up hd ⟨by omega, by omega⟩
        have d2 : decide (s.n ≤ n) = false := by simpa using hm
        rw [e1, if_neg (by omega)]
        by_cases hl : l.length = 512
        · rw [if_neg (by omega)]
          have d3 : ((l.length : Int) != 512) = false := by rw [bne_eq_false_iff_eq]; omega
          have HN := Lib.hid (show 0 ≤ n ∧ n < s.n by omega)
          have H := Lib.hid h
          have HX := Lib.hid hx
          have HL := Lib.hid hl
          have HDn := Lib.hid hD
          have HDown := Lib.hid hd
          clear h hd e1 hx hl hD
          go_enter Tryz.func23, Tryz.ntmps23
          have c1 := H.out.c1
          have f1 := H.out.fz 1
          have hmk := run_mk512
          have hload : ∀ W : World, Mod none_ w W → W.cell? ⟨r, 1, none⟩ = some lv ∧ W.frozen? ⟨r, 1, none⟩ = false := fun W hW => ⟨hW.cell_eq c1 (fun e => e), (hW.frozen (p := ⟨r, 1, none⟩) (blk_lt H.out.cells) (fun e => e)).trans f1⟩
          have hrow : OwnS w (fun k => lv.ownBlock = some k ∧ k ≠ r ∨ w.heap.size + 2 ≤ k) 96 4 lv L.length (rcells L) := ⟨H.out.row.row, fun g hg => .inl ⟨hg, (H.out.row.dom g hg).2.2⟩⟩
          have hrr : ∀ W W' : World, Mod none_ w W → Mod (fun k => lv.ownBlock = some k ∧ k ≠ r ∨ w.heap.size + 2 ≤ k) W W' → W'.cell? ⟨r, 1, none⟩ = some lv ∧ W'.frozen? ⟨r, 1, none⟩ = false := fun W W' hW hW' => by
            have hlt := blk_lt H.out.cells
            have hn : ¬ (lv.ownBlock = some r ∧ r ≠ r ∨ w.heap.size + 2 ≤ r) := fun e => e.elim (fun e => e.2 rfl) (fun e => by omega)
            exact ⟨hW'.cell_eq (hload W hW).1 hn, (hW'.frozen (p := ⟨r, 1, none⟩) (Nat.lt_of_lt_of_le hlt hW.size) hn).trans (hload W hW).2⟩
          have hone : ∀ u ∈ [Value.int .i64 n, .slice none 0 0, .slice (some ⟨w.heap.size, 0, none⟩) 512 512, .bool false], u.oneCell' = true := by
            intro u hu
            simp only [List.mem_cons, List.not_mem_nil, or_false] at hu
            rcases hu with rfl | rfl | rfl | rfl <;> rfl
          have hfew := H.out.rep.few H.out.n1.2
          have HLOAD := Lib.hid hload
          have HRR := Lib.hid hrr
          have HROW := Lib.hid hrow
          have HONE := Lib.hid hone
          clear hload hrr hrow hone
          go_wp2_with fail
          refine (find_any H.out n).mono ?_
          rintro e w' ⟨hf, rfl⟩
          clear h0 h3
          have HF := Lib.hid hf
          clear hf
          obtain ⟨i0, hi0⟩ : ∃ i0, e = .returned (.int .i64 i0) := by
            rcases HF.out with ⟨i, _, _, rfl⟩ | ⟨_, rfl⟩
            · exact ⟨_, rfl⟩
            · exact ⟨_, rfl⟩
          subst hi0
          go_upto_if 29 with (fail)
          go_cut [7] (fun s7 wx => ∃ (i : Nat) (lv' : Value) (L' : List RSec), s7 = .int .i64 (i : Int) ∧ RefPre wx B X r lv' L' i n s ∧ Mod (RM B X) w wx)
          case first =>
            rcases HF.out with ⟨i, hi, hin, he⟩ | ⟨hno, he⟩
            · cases he
              have d4 : decide ((i : Int) < 0) = false := by simp
              have HP := Lib.hid (RefPre.of H.out hi hin)
              clear hin
              go_wp2_with fail
              go_meet
              exact ⟨i, lv, L, rfl, HP.out, Mod.refl _ _⟩
            · cases he
              have HNO := Lib.hid hno
              clear hno
              go_wp2_with fail
              have hA : ∀ o, (w.alloc o).cell? ⟨r, 1, none⟩ = some lv := fun o => (HLOAD.out _ ((Mod.refl _ _).alloc o)).1
              have hB : ∀ o o2, ((w.alloc o).alloc o2).cell? ⟨r, 1, none⟩ = some lv := fun o o2 => (HLOAD.out _ (((Mod.refl _ _).alloc o).alloc o2)).1
              go_region_law (first | (refine step_append rfl _ _ 49 rfl eltR rfl (HROW.out.keep (show Mod none_ w _ from (((Mod.refl _ _).alloc _).alloc _).drew) (fun _ _ _ e => e)) (xv := .slice (some ⟨w.heap.size + 1, 0, none⟩) 1 1) rfl (Dx := fun _ => True) (m := 1) (news := [.int .i64 n, .slice none 0 0, .slice (some ⟨w.heap.size, 0, none⟩) 512 512, .bool false]) (rd_block (two_alloc w _ (.cells [Value.int .i64 n, .slice none 0 0, .slice (some ⟨w.heap.size, 0, none⟩) 512 512, .bool false].toArray 96)) rfl) HONE.out (by omega) (by omega) (fun k hk => .inr (by simp at hk; omega)) ?_; intro v5 w5 ho5 hm5 hb5; obtain ⟨g5, c5, rfl, hD5, hl5⟩ := ho5.form1 (by omega); obtain ⟨hS5, hF5⟩ := HRR.out _ _ (((Mod.refl _ _).alloc _).alloc _).drew hm5))
              all_goals
                obtain ⟨hp, hmm⟩ := RefPre.made (W := (((w.alloc (.cells (u8s zs).toArray 5)).alloc (.cells [Value.int .i64 n, .slice none 0 0, .slice (some ⟨w.heap.size, 0, none⟩) 512 512, .bool false].toArray 96)).drew)) H.out (((Mod.refl none_ w).alloc _).alloc _).drew (by simp) (two_alloc0 w _ _) ho5 hm5 hb5 HNO.out HN.out
                have HP := Lib.hid hp
                have HMM := Lib.hid hmm
                have c1 := hp.c1
                clear hp hmm ho5 hm5 hb5 hD5 hl5 hS5 hF5 hA hB f1
                generalize w5.setCell ⟨r, 1, none⟩ (.slice (some ⟨g5, 0, none⟩) (L.length + 1) c5) = w6 at *
                have HQ := HP.out.hi
                go_wp2_with fail
                go_meet
                exact ⟨L.length, _, _, by go_num, HP.out, HMM.out⟩
          case rest =>
            obtain ⟨i, lv', L', rfl, hp, hmc⟩ := hcut
            have HP := Lib.hid hp
            have HMC := Lib.hid hmc
            obtain ⟨g, c', rfl, hgr, hgx, g1, g3, ⟨u1, hu1⟩, ⟨u3, hu3⟩⟩ := hp.at_
            obtain ⟨hiL, hinn⟩ := hp.hi
            have c1c := hp.c1
            have HRX := Lib.hid (HX.out.keep hmc HDn.out)
            have HGR := Lib.hid hgr
            have i1 : (0 : Int) ≤ (i : Int) := by omega
            have i2 : (i : Int) < (L'.length : Int) := by omega
            have HIN := Lib.hid hinn
            have hl512 : l.length ≤ 512 := by have := HL.out; omega
            have hl0 : 0 < l.length := by have := HL.out; omega
            clear d3
            have HG := Lib.hid (show ∀ (i : Nat), wc.frozen? ⟨g, i, none⟩ = false from by
              obtain ⟨cur, hb, _⟩ := hp.row.blk
              exact fun i => frozen_of_row wc g i _ _ hb)
            clear hp hmc hinn c1 f1
            have hload2 : ∀ W : World, Mod none_ wc W → W.cell? ⟨r, 1, none⟩ = some (.slice (some ⟨g, 0, none⟩) L'.length c') := fun W hW => hW.cell_eq c1c (fun e => e)
            have hkept2 : ∀ (W W' : World), Mod none_ wc W → Mod (Fr wc) W W' → W'.cell? ⟨r, 1, none⟩ = some (.slice (some ⟨g, 0, none⟩) L'.length c') ∧ W'.cell? ⟨g, i * 4 + 1, none⟩ = some u1 ∧ W'.frozen? ⟨g, i * 4 + 1, none⟩ = false := fun W W' hW hW' => by
              have hr := World.block_lt_of_cell? wc _ c1c
              have hg := World.block_lt_of_cell? wc _ hu1
              have hr' : ¬ Fr wc r := fun e => by unfold Fr at e; simp at hr; omega
              have hg' : ¬ Fr wc g := fun e => by unfold Fr at e; simp at hg; omega
              exact ⟨hW'.cell_eq (hload2 W hW) hr', hW'.cell_eq (hW.cell_eq hu1 (fun e => e)) hg', (hW'.frozen (p := ⟨g, i * 4 + 1, none⟩) (Nat.lt_of_lt_of_le hg hW.size) hg').trans ((hW.frozen (p := ⟨g, i * 4 + 1, none⟩) hg (fun e => e)).trans g1)⟩
            have HL2 := Lib.hid hload2
            have HK2 := Lib.hid hkept2
            clear hload2 hkept2 hmk
            go_wp2_with fail
            have hmo : Mod none_ wc (wc.alloc (.cells #[] 5)).drew := ((Mod.refl _ _).alloc _).drew
            have hOwn : OwnS (wc.alloc (.cells #[] 5)).drew (Fr wc) 5 1 (.slice (some ⟨wc.heap.size, 0, none⟩) 0 0) 0 [] := OwnS.made (w := (wc.alloc (.cells #[] 5)).drew) (D := Fr wc) (sz := 1) (cs := []) (heap_alloc_new wc (.cells #[] 5)) (Nat.le_refl wc.heap.size) 0 (Nat.zero_le _) rfl
            have HOwn := Lib.hid hOwn
            have HRd := Lib.hid (HRX.out.keep hmo (fun _ _ _ e => e))
            have HMo := Lib.hid hmo
            clear hmo hOwn
            go_region_held3? (fun W : World => W.cell? ⟨r, 1, none⟩ = some (.slice (some ⟨g, 0, none⟩) L'.length c'))
              (first | exact c1c | exact HL2.out _ (((Mod.refl _ _).alloc _).drew) | exact hS6 | (rw [World.cell?_setCell_far _ _ _ _ HGR.out]; exact hS6))
              (first | (refine step_append rfl _ _ 37 rfl eltB rfl HOwn.out (xv := .slice A l.length c) rfl HRd.out (u8s_one _) (by omega) (by omega) (fun k hk => Nat.le_trans HMo.out.size hk) ?_; intro v6 w6 ho6 hm6 hb6; obtain ⟨g6, c6, rfl, hD6, hl6⟩ := ho6.form1 (by omega); obtain ⟨hS6, hS61, hS62⟩ := HK2.out _ _ HMo.out hm6))
            have hm6' : Mod none_ wc w6 := HMo.out.trans hm6 (fun k e hk => by unfold Fr at e; omega)
            have HP6 := Lib.hid (HP.out.keep hm6' (fun _ e => e.elim))
            have hrd : Rd w6 (Byt X r (.slice (some ⟨g, 0, none⟩) L'.length c')) 1 (.slice (some ⟨g6, 0, none⟩) l.length c6) 512 (u8s l) := by
              have h := ho6.rd
              rw [Nat.zero_add, List.nil_append] at h
              have h1 := h.mono (D' := Byt X r (.slice (some ⟨g, 0, none⟩) L'.length c')) (fun k hk _ => by
                have hr := World.block_lt_of_cell? wc _ c1c
                have hg := World.block_lt_of_cell? wc _ hu1
                unfold Fr at hk
                simp only at hr hg
                exact ⟨fun e => by have := HP.out.xb k e; omega, by omega, fun e => by simp only [Value.ownBlock, Option.some.injEq] at e; omega⟩)
              have hl : l.length = 512 := HL.out
              rw [hl] at h1 ⊢
              exact h1
            obtain ⟨hri, hmf⟩ := HP6.out.fin hrd
            have HRI := Lib.hid hri
            have HMF := Lib.hid ((HMC.out.trans' (hm6'.mono (S' := RM B X) (fun _ _ e => e.elim))).trans' hmf)
            obtain ⟨cur, hcur, _⟩ := HP6.out.row.blk
            have hcur7 := heap_setCell_same w6 g (i * 4 + 1) _ _ (.slice (some ⟨g6, 0, none⟩) l.length c6) hcur
            have g7 : (w6.setCell ⟨g, i * 4 + 1, none⟩ (.slice (some ⟨g6, 0, none⟩) l.length c6)).frozen? ⟨g, i * 4 + 3, none⟩ = false := frozen_of_row _ g _ _ _ hcur7
            have c7 : (w6.setCell ⟨g, i * 4 + 1, none⟩ (.slice (some ⟨g6, 0, none⟩) l.length c6)).cell? ⟨r, 1, none⟩ = some (.slice (some ⟨g, 0, none⟩) L'.length c') := by rw [World.cell?_setCell_far _ _ _ _ HGR.out]; exact hS6
            have d7 : (w6.setCell ⟨g, i * 4 + 1, none⟩ (.slice (some ⟨g6, 0, none⟩) l.length c6)).cell? ⟨g, i * 4 + 3, none⟩ = some u3 := by
              refine (World.cell?_setCell_other w6 ⟨g, i * 4 + 1, none⟩ ⟨g, i * 4 + 3, none⟩ _ (by simp)).trans ?_
              exact hm6'.cell_eq hu3 (fun e => e)
            clear hri hmf hrd hm6 hm6' ho6 hb6 hD6 hl6 hS6 hS61 hS62 hcur hcur7 c1c hu1 hu3 g1 g3
            generalize w6.setCell ⟨g, i * 4 + 1, none⟩ (.slice (some ⟨g6, 0, none⟩) l.length c6) = w7 at *
            go_wp2_with fail
            generalize w7.setCell ⟨g, i * 4 + 3, none⟩ (.bool true) = w8 at *
            obtain ⟨lv8, L8, hr8⟩ := HRI.out
            refine (rcrash_any hr8 HDown.out).mono ?_
            rintro e w9 ⟨rfl, hr9, hm9, _⟩
            have HR9 := Lib.hid (show RefIs w9 B X r (writeS s n l) from ⟨_, _, hr9⟩)
            have HM9 := Lib.hid (HMF.out.trans' (hm9.mono (S' := RM B X) (fun k _ e => by subst e; exact hr9.own)))
            clear hr8 hr9 hm9
            cases hw : (writeS s n l).down with
            | true =>
              have HW := Lib.hid hw
              rw [show (crashS { s with fo := put s.fo n l }).down = true from hw]
              clear hw
              go_wp2_with fail
              go_ret
              exact ⟨by rw [downE, HW.out]; rfl, HR9.out, HM9.out⟩
            | false =>
              have HW := Lib.hid hw
              rw [show (crashS { s with fo := put s.fo n l }).down = false from hw]
              clear hw
              go_wp2_with fail
              go_ret
              exact ⟨by rw [downE, HW.out]; rfl, HR9.out, HM9.out⟩
        · rw [if_pos hl]
          have d3 : ((l.length : Int) != 512) = true := by rw [bne_iff_ne]; omega
          have H := Lib.hid h
          clear h hd e1
          go_enter Tryz.func23, Tryz.ntmps23
          go_wp2
          go_ret
          exact ⟨rfl, ⟨_, _, H.out⟩, Mod.refl _ _⟩

end Go.Proofs.YthbicfbhghcmkaaGreat
