/-
  The document's disk: Sync, Wake.
-/
import Derived.Test.YthbicfbhghcmkaaGreatRefC
namespace Go.Proofs.YthbicfbhghcmkaaGreat
open Go Go.RowKit Go.SM

/-- the document's disk in memory, whatever its sectors say -/
structure RefMem (w : World) (B : Nat) (X : XS) (r : Nat) (lv : Value) (L : List RSec) (s : DS) : Prop where
  cells : w.heap[r]? = some (.cells #[.int .i64 s.n, lv, .int .i64 s.armed, .bool s.down] 51 (0, 0))
  row : OwnS w (fun k => B ≤ k ∧ ¬ X k ∧ k ≠ r) 96 4 lv L.length (rcells L)
  bytes : ∀ x ∈ L, Rd w (Byt X r lv) 1 x.lv 512 (u8s x.lat) ∧ Rd w (Byt X r lv) 1 x.sv 512 (u8s x.saf)
  own : B ≤ r ∧ ¬ X r
  n1 : 1 ≤ s.n ∧ s.n ≤ 8192
  arm : 0 ≤ s.armed ∧ s.armed ≤ 9223372036854775807
  xb : ∀ k, X k → k < w.heap.size

section
variable {w w' : World} {B r i : Nat} {X : XS} {S : Nat → Prop} {lv : Value} {L : List RSec} {s : DS}
theorem RefAt.mem (h : RefAt w B X r lv L s) : RefMem w B X r lv L s := ⟨h.cells, h.row, h.bytes, h.own, h.n1, h.arm, h.xb⟩
theorem RefMem.at' (h : RefMem w B X r lv L s) (t : DS) (hr : Rep L t) (hn : t.n = s.n) (ha : t.armed = s.armed) (hd : t.down = s.down) : RefAt w B X r lv L t :=
  ⟨by rw [hn, ha, hd]; exact h.cells, h.row, h.bytes, hr, h.own, by rw [hn]; exact h.n1, by rw [ha]; exact h.arm, h.xb⟩
theorem RefMem.keep (h : RefMem w B X r lv L s) (hm : Mod S w w') (hS : ∀ k, S k → X k ∧ ¬ X.z k) : RefMem w' B X r lv L s :=
  ⟨hm.get h.cells (fun e => h.own.2 (hS _ e).1), h.row.keep hm (fun k hk _ e => hk.2.1 (hS k e).1), fun x hx => ⟨(h.bytes x hx).1.keep hm (fun k hk _ e => (hS k e).2 (hk.1 (hS k e).1)), (h.bytes x hx).2.keep hm (fun k hk _ e => (hS k e).2 (hk.1 (hS k e).1))⟩, h.own, h.n1, h.arm, fun k e => Nat.lt_of_lt_of_le (h.xb k e) hm.size⟩
theorem RefMem.c1 (h : RefMem w B X r lv L s) : w.cell? ⟨r, 1, none⟩ = some lv := by rw [cell_of_row w r 1 _ _ _ h.cells]; rfl
theorem RefMem.lvf (h : RefMem w B X r lv L s) : ∃ A c, lv = .slice A L.length c := by obtain ⟨A, c, hv, _⟩ := h.row.rd; exact ⟨A, c, hv⟩
theorem RefMem.at_ (h : RefMem w B X r lv L s) {i : Nat} (hi : i < L.length) : ∃ g c, lv = .slice (some ⟨g, 0, none⟩) L.length c ∧ g ≠ r ∧ (B ≤ g ∧ ¬ X g) ∧ (∀ j, w.frozen? ⟨g, j, none⟩ = false) ∧
    w.cell? ⟨g, i * 4, none⟩ = some (.int .i64 L[i].n) ∧ w.cell? ⟨g, i * 4 + 1, none⟩ = some L[i].lv ∧ w.cell? ⟨g, i * 4 + 2, none⟩ = some L[i].sv ∧ w.cell? ⟨g, i * 4 + 3, none⟩ = some (.bool L[i].op) := by
  rcases h.row.form with ⟨_, h2⟩ | ⟨g, c, rfl, hD, _⟩
  · omega
  · obtain ⟨h0, h1, h2, h3⟩ := rcells_get L i hi
    obtain ⟨cur, hb, _⟩ := h.row.blk
    exact ⟨g, c, rfl, hD.2.2, ⟨hD.1, hD.2.1⟩, fun j => frozen_of_row w g _ _ _ hb, h.row.cell h0, h.row.cell h1, h.row.cell h2, h.row.cell h3⟩

theorem mem_set {α : Type} {L : List α} {i : Nat} {y x : α} (h : x ∈ L.set i y) : x = y ∨ x ∈ L := by
  rcases List.mem_or_eq_of_mem_set h with h | h
  · exact .inr h
  · exact .inl h

/-- a cell of a sector is turned -/
theorem RefMem.setC {g c k : Nat} (h : RefMem w B X r (.slice (some ⟨g, 0, none⟩) L.length c) L s) {u : Value} {y : RSec} (hu : (rcells L).set (i * 4 + k) u = rcells (L.set i y))
    (hy : Rd w (Byt X r (.slice (some ⟨g, 0, none⟩) L.length c)) 1 y.lv 512 (u8s y.lat) ∧ Rd w (Byt X r (.slice (some ⟨g, 0, none⟩) L.length c)) 1 y.sv 512 (u8s y.saf)) :
    RefMem (w.setCell ⟨g, i * 4 + k, none⟩ u) B X r (.slice (some ⟨g, 0, none⟩) L.length c) (L.set i y) s ∧ Mod (RM B X) w (w.setCell ⟨g, i * 4 + k, none⟩ u) := by
  have hD : B ≤ g ∧ ¬ X g ∧ g ≠ r := h.row.dom g rfl
  have hm : Mod (· = g) w (w.setCell ⟨g, i * 4 + k, none⟩ u) := (Mod.refl (· = g) w).setCell (p := ⟨g, i * 4 + k, none⟩) (.inl rfl) _
  have hby : ∀ k, Byt X r (.slice (some ⟨g, 0, none⟩) L.length c) k → ¬ k = g := fun k hk e => hk.2.2 (by rw [e]; rfl)
  have hrow := h.row.set (i := i * 4 + k) u
  rw [hu] at hrow
  refine ⟨⟨hm.get h.cells (fun e => hD.2.2 e.symm), by rw [List.length_set]; exact hrow, fun x hx => ?_, h.own, h.n1, h.arm, fun k e => Nat.lt_of_lt_of_le (h.xb k e) hm.size⟩, hm.mono (fun k _ e => by subst e; exact ⟨hD.1, hD.2.1⟩)⟩
  rcases mem_set hx with rfl | hx
  · exact ⟨hy.1.keep hm (fun k hk _ => hby k hk), hy.2.keep hm (fun k hk _ => hby k hk)⟩
  · exact ⟨(h.bytes x hx).1.keep hm (fun k hk _ => hby k hk), (h.bytes x hx).2.keep hm (fun k hk _ => hby k hk)⟩
end

/-- the first j are turned already -/
def uptoL (f : RSec → RSec) (L : List RSec) (j : Nat) : List RSec := (L.take j).map f ++ L.drop j
theorem uptoL_zero (f : RSec → RSec) (L : List RSec) : uptoL f L 0 = L := by simp [uptoL]
theorem uptoL_all (f : RSec → RSec) (L : List RSec) {j : Nat} (h : L.length ≤ j) : uptoL f L j = L.map f := by
  unfold uptoL
  rw [List.take_of_length_le h, List.drop_eq_nil_of_le h, List.append_nil]
theorem uptoL_length (f : RSec → RSec) (L : List RSec) (j : Nat) : (uptoL f L j).length = L.length := by
  unfold uptoL
  simp
  omega
theorem uptoL_get (f : RSec → RSec) (L : List RSec) {j : Nat} (h : j < L.length) : (uptoL f L j)[j]'(by rw [uptoL_length]; exact h) = L[j] := by
  unfold uptoL
  rw [List.getElem_append_right (by simp; omega)]
  simp only [List.length_map, List.length_take, List.getElem_drop]
  congr 1
  omega
theorem uptoL_set (f : RSec → RSec) (L : List RSec) {j : Nat} (h : j < L.length) : (uptoL f L j).set j (f L[j]) = uptoL f L (j + 1) := by
  unfold uptoL
  rw [List.set_append_right _ _ (by simp; omega), List.take_succ_eq_append_getElem h, List.map_append, List.append_assoc]
  congr 1
  have : j - (List.map f (List.take j L)).length = 0 := by simp; omega
  rw [this, List.drop_eq_getElem_cons h, List.set_cons_zero]
  rfl

theorem Rep.map {L : List RSec} {s t : DS} (h : Rep L s) (f : RSec → RSec) (hf : ∀ x, (f x).n = x.n) (hn : t.n = s.n) (hx : ∀ x ∈ L, (f x).lat = latS t x.n ∧ (f x).saf = (t.fs x.n).getD zs ∧ ((f x).op = true ∨ (f x).lat = (f x).saf))
    (hr : ∀ k, s.fo k = none → s.fs k = none → t.fo k = none ∧ t.fs k = none) : Rep (L.map f) t := by
  have hmem : ∀ y ∈ L.map f, ∃ x ∈ L, y = f x := fun y hy => by
    obtain ⟨x, hx, rfl⟩ := List.mem_map.1 hy
    exact ⟨x, hx, rfl⟩
  refine ⟨?_, fun y hy => ?_, fun y hy => ?_, fun y hy => ?_, fun y hy => ?_, fun k hk => ?_⟩
  · rw [List.map_map]
    have : (fun x : RSec => x.n) ∘ f = fun x => x.n := by funext x; exact hf x
    rw [this]
    exact h.nodup
  · obtain ⟨x, hx', rfl⟩ := hmem y hy
    rw [hf, hn]
    exact h.range x hx'
  · obtain ⟨x, hx', rfl⟩ := hmem y hy
    rw [hf]
    exact (hx x hx').1
  · obtain ⟨x, hx', rfl⟩ := hmem y hy
    rw [hf]
    exact (hx x hx').2.1
  · obtain ⟨x, hx', rfl⟩ := hmem y hy
    exact (hx x hx').2.2
  · obtain ⟨h1, h2⟩ := h.rest k (fun x hx' => by
      have := hk (f x) (List.mem_map_of_mem hx')
      rwa [hf] at this)
    exact hr k h1 h2

theorem over_getD (fo fs : Int → Option (List UInt8)) (k : Int) : (over fo fs k).getD zs = (fo k).getD ((fs k).getD zs) := by
  unfold over
  cases fo k with
  | some l => rw [Option.getD_some, Option.getD_some]
  | none => rw [Option.getD_none]

def syX (x : RSec) : RSec := { x with sv := x.lv, saf := x.lat, op := false }
theorem Rep.sync {L : List RSec} {s : DS} (h : Rep L s) : Rep (L.map syX) (flushS s) := by
  refine h.map syX (fun _ => rfl) rfl (fun x hx => ⟨?_, ?_, .inr rfl⟩) (fun k h1 h2 => ⟨rfl, ?_⟩)
  · show x.lat = (over s.fo s.fs x.n).getD zs
    rw [over_getD]
    exact h.lat x hx
  · show x.lat = (over s.fo s.fs x.n).getD zs
    rw [over_getD]
    exact h.lat x hx
  · show over s.fo s.fs k = none
    unfold over
    rw [h1, h2]

def wkX (ks : List Int) (x : RSec) : RSec := if x.op = false then x else if x.n ∈ ks then { x with sv := x.lv, saf := x.lat, op := false } else { x with lv := x.sv, lat := x.saf, op := false }
theorem Rep.wake {L : List RSec} {s : DS} (h : Rep L s) (ks : List Int) : Rep (L.map (wkX ks)) (wakeS s ks) := by
  have hlat : ∀ k, latS (wakeS s ks) k = if k ∈ ks then latS s k else (s.fs k).getD zs := fun k => by
    show (wakeFs ks s.fo s.fs k).getD zs = _
    unfold wakeFs
    split
    · rw [over_getD]; rfl
    · rfl
  have hfs : ∀ k, ((wakeS s ks).fs k).getD zs = if k ∈ ks then latS s k else (s.fs k).getD zs := hlat
  refine h.map (wkX ks) (fun x => ?_) rfl (fun x hx => ?_) (fun k h1 h2 => ⟨rfl, ?_⟩)
  · unfold wkX; split
    · rfl
    · split <;> rfl
  · rw [hlat, hfs]
    have e1 := h.lat x hx
    have e2 := h.saf x hx
    have e3 := h.shut x hx
    unfold wkX
    cases ho : x.op with
    | false =>
      rw [ho] at e3
      have e4 : x.lat = x.saf := by simpa using e3
      simp only [if_true]
      refine ⟨?_, ?_, .inr e4⟩
      · split
        · exact e1
        · rw [e4]; exact e2
      · split
        · rw [← e4]; exact e1
        · exact e2
    | true =>
      simp only [Bool.true_eq_false, if_false]
      by_cases hk : x.n ∈ ks
      · simp only [if_pos hk]; exact ⟨e1, e1, .inr trivial⟩
      · simp only [if_neg hk]; exact ⟨e2, e2, .inr trivial⟩
  · show wakeFs ks s.fo s.fs k = none
    unfold wakeFs over
    rw [h1, h2]
    split <;> rfl

section
variable {w : World} {B r j g c : Nat} {X : XS} {L : List RSec} {s : DS}
/-- a sector's safe bytes and its mark are turned -/
theorem RefMem.two (f : RSec → RSec) (h : RefMem w B X r (.slice (some ⟨g, 0, none⟩) L.length c) (uptoL f L j) s) (hj : j < L.length) {x : RSec} (hx : L[j] = x) (hf : f x = syX x) :
    RefMem ((w.setCell ⟨g, j * 4 + 2, none⟩ x.lv).setCell ⟨g, j * 4 + 3, none⟩ (.bool false)) B X r (.slice (some ⟨g, 0, none⟩) L.length c) (uptoL f L (j + 1)) s ∧
    Mod (RM B X) w ((w.setCell ⟨g, j * 4 + 2, none⟩ x.lv).setCell ⟨g, j * 4 + 3, none⟩ (.bool false)) ∧
    ((w.setCell ⟨g, j * 4 + 2, none⟩ x.lv).cell? ⟨r, 1, none⟩ = some (.slice (some ⟨g, 0, none⟩) L.length c) ∧ ∀ k, (w.setCell ⟨g, j * 4 + 2, none⟩ x.lv).frozen? ⟨g, k, none⟩ = false) := by
  have hlu : j < (uptoL f L j).length := by rw [uptoL_length]; exact hj
  have hget : (uptoL f L j)[j] = x := (uptoL_get f L hj).trans hx
  have hset := uptoL_set f L hj
  rw [hx, hf] at hset
  have hlen := uptoL_length f L j
  generalize uptoL f L j = U at *
  rw [← hlen] at h
  have hu := rcells_set U j hlu
  rw [hget] at hu
  have hb := h.bytes x (hget ▸ List.getElem_mem hlu)
  obtain ⟨hra, hma⟩ := h.setC (k := 2) (hu.2.1 x.lv x.lat) ⟨hb.1, hb.1⟩
  have hset1 : (U.set j { x with sv := x.lv, saf := x.lat }).length = U.length := List.length_set
  have hu3 := (rcells_set (U.set j { x with sv := x.lv, saf := x.lat }) j (by rw [hset1]; exact hlu)).2.2 false
  rw [← hset1] at hra
  rw [List.getElem_set_self] at hu3
  have hbx := hra.bytes { x with sv := x.lv, saf := x.lat } (List.mem_iff_getElem.2 ⟨j, by rw [hset1]; exact hlu, by rw [List.getElem_set_self]⟩)
  obtain ⟨hrb, hmb⟩ := hra.setC (k := 3) hu3 hbx
  rw [hset1, hlen, List.set_set] at hrb
  have c1 := hra.c1
  rw [hset1, hlen] at c1
  obtain ⟨cur, hcur, _⟩ := hra.row.blk
  refine ⟨?_, hma.trans' hmb, c1, fun k => frozen_of_row _ g k _ _ hcur⟩
  rw [← hset]
  exact hrb
/-- a sector's latest bytes and its mark are turned -/
theorem RefMem.two1 (f : RSec → RSec) (h : RefMem w B X r (.slice (some ⟨g, 0, none⟩) L.length c) (uptoL f L j) s) (hj : j < L.length) {x : RSec} (hx : L[j] = x) (hf : f x = { x with lv := x.sv, lat := x.saf, op := false }) :
    RefMem ((w.setCell ⟨g, j * 4 + 1, none⟩ x.sv).setCell ⟨g, j * 4 + 3, none⟩ (.bool false)) B X r (.slice (some ⟨g, 0, none⟩) L.length c) (uptoL f L (j + 1)) s ∧
    Mod (RM B X) w ((w.setCell ⟨g, j * 4 + 1, none⟩ x.sv).setCell ⟨g, j * 4 + 3, none⟩ (.bool false)) ∧
    ((w.setCell ⟨g, j * 4 + 1, none⟩ x.sv).cell? ⟨r, 1, none⟩ = some (.slice (some ⟨g, 0, none⟩) L.length c) ∧ ∀ k, (w.setCell ⟨g, j * 4 + 1, none⟩ x.sv).frozen? ⟨g, k, none⟩ = false) := by
  have hlu : j < (uptoL f L j).length := by rw [uptoL_length]; exact hj
  have hget : (uptoL f L j)[j] = x := (uptoL_get f L hj).trans hx
  have hset := uptoL_set f L hj
  rw [hx, hf] at hset
  have hlen := uptoL_length f L j
  generalize uptoL f L j = U at *
  rw [← hlen] at h
  have hu := rcells_set U j hlu
  rw [hget] at hu
  have hb := h.bytes x (hget ▸ List.getElem_mem hlu)
  obtain ⟨hra, hma⟩ := h.setC (k := 1) (hu.1 x.sv x.saf) ⟨hb.2, hb.2⟩
  have hset1 : (U.set j { x with lv := x.sv, lat := x.saf }).length = U.length := List.length_set
  have hu3 := (rcells_set (U.set j { x with lv := x.sv, lat := x.saf }) j (by rw [hset1]; exact hlu)).2.2 false
  rw [← hset1] at hra
  rw [List.getElem_set_self] at hu3
  have hbx := hra.bytes { x with lv := x.sv, lat := x.saf } (List.mem_iff_getElem.2 ⟨j, by rw [hset1]; exact hlu, by rw [List.getElem_set_self]⟩)
  obtain ⟨hrb, hmb⟩ := hra.setC (k := 3) hu3 hbx
  rw [hset1, hlen, List.set_set] at hrb
  have c1 := hra.c1
  rw [hset1, hlen] at c1
  obtain ⟨cur, hcur, _⟩ := hra.row.blk
  refine ⟨?_, hma.trans' hmb, c1, fun k => frozen_of_row _ g k _ _ hcur⟩
  rw [← hset]
  exact hrb
end

set_option maxHeartbeats 4000000 in
set_option maxRecDepth 100000 in
theorem rf_sync {w : World} {B r : Nat} {X : XS} {s : DS} (h : RefIs w B X r s) :
    Calls Tryz.prog 26 #[.pointer (some ⟨r, 0, none⟩)] w fun e w' => e = .returned (.int .i64 (syncT s).1) ∧ RefIs w' B X r (syncT s).2 ∧ Mod (RM B X) w w' := by
  obtain ⟨lv, L, h⟩ := h
  have h3 := h.c3
  unfold syncT
  cases hd : s.down with
  | true =>
    rw [hd] at h3
    have e1 : mayE s 0 = 8 := by unfold mayE; rw [hd]; rfl
    rw [e1, if_pos (by omega)]
    have H := Lib.hid h
    clear h hd e1
    go_enter Tryz.func26, Tryz.ntmps26
    go_wp2
    go_ret
    exact ⟨rfl, ⟨_, _, H.out⟩, Mod.refl _ _⟩
  | false =>
    rw [hd] at h3
    have hn := h.n1
    have e1 : mayE s 0 = 0 := mayE_up hd ⟨by omega, by omega⟩
    rw [e1, if_neg (by omega)]
    have H := Lib.hid h
    have HDown := Lib.hid hd
    clear h hd e1 hn
    unfold syncS downE
    cases hw : (crashS s).down with
    | true =>
      have HW := Lib.hid hw
      rw [if_pos rfl, if_pos rfl]
      clear hw
      go_enter Tryz.func26, Tryz.ntmps26
      go_wp2_with fail
      refine (rcrash_any H.out HDown.out).mono ?_
      rintro e w1 ⟨rfl, hr1, hm1, _⟩
      have HM1 := Lib.hid (hm1.mono (S' := RM B X) (fun k _ e => by subst e; exact H.out.own))
      have HR1 := Lib.hid hr1
      rw [HW.out]
      clear hr1 hm1 h3
      go_wp2_with fail
      go_ret
      exact ⟨rfl, ⟨_, _, HR1.out⟩, HM1.out⟩
    | false =>
      rw [if_neg (by simp), if_neg (by simp)]
      obtain ⟨t, ht⟩ : ∃ t, crashS s = t := ⟨_, rfl⟩
      rw [ht] at hw ⊢
      have HT := Lib.hid ht
      have HW := Lib.hid hw
      clear hw ht
      go_enter Tryz.func26, Tryz.ntmps26
      go_wp2_with fail
      refine (rcrash_any H.out HDown.out).mono ?_
      rintro e w1 ⟨rfl, hr1, hm1, _⟩
      rw [HT.out] at hr1 ⊢
      have HM1 := Lib.hid (hm1.mono (S' := RM B X) (fun k _ e => by subst e; exact H.out.own))
      have HR1 := Lib.hid hr1
      rw [HW.out]
      clear hr1 hm1 h3
      obtain ⟨A, c, rfl⟩ := HR1.out.lvf
      have hfew := HR1.out.rep.few HR1.out.n1.2
      go_wp2_with fail
      go_loopw [3] (fun i wr => ∃ j : Nat, i = .int .i64 j ∧ j ≤ L.length ∧ RefMem wr B X r (.slice A L.length c) (uptoL syX L j) t ∧ Mod (RM B X) w wr) (fun i _ => L.length - (intOf i).toNat)
      case atStart => exact ⟨0, rfl, Nat.zero_le _, by rw [uptoL_zero]; exact HR1.out.mem, HM1.out⟩
      case round =>
        obtain ⟨j, rfl, hj, hr, hm⟩ := hrel
        have HR := Lib.hid hr
        have HM := Lib.hid hm
        have c1 := hr.c1
        clear hr hm
        by_cases hlt : j < L.length
        · have hlu : j < (uptoL syX L j).length := by rw [uptoL_length]; exact hlt
          obtain ⟨g, c', he, hgr, hgx, hfz, q0, q1, q2, q3⟩ := HR.out.at_ hlu
          have hgetj := uptoL_get syX L hlt
          rw [uptoL_length] at he
          simp only [Value.slice.injEq] at he
          obtain ⟨rfl, _, rfl⟩ := he
          rw [hgetj] at q0 q1 q2 q3
          clear hgx
          have f2 := hfz (j * 4 + 2)
          have f3 := hfz (j * 4 + 3)
          have HGR := Lib.hid hgr
          have d1 : decide ((j : Int) < (L.length : Int)) = true := by simpa using hlt
          have d2 : (j : Int) < (L.length : Int) := by omega
          clear hgetj hfz hgr hlu q0 f3
          obtain ⟨x, hx⟩ : ∃ x, L[j] = x := ⟨_, rfl⟩
          obtain ⟨hrb, hmb, c1', f3'⟩ := HR.out.two syX hlt hx rfl
          have f33 := f3' (j * 4 + 3)
          rw [hx] at q1 q2 q3
          have hmb2 := HM.out.trans' hmb
          have s3 : (wr.setCell ⟨g, j * 4 + 2, none⟩ x.lv).cell? ⟨g, j * 4 + 3, none⟩ = some (.bool x.op) := (World.cell?_setCell_other wr ⟨g, j * 4 + 2, none⟩ ⟨g, j * 4 + 3, none⟩ _ (by simp)).trans q3
          have hbx := HR.out.bytes x (by rw [← hx, ← uptoL_get syX L hlt]; exact List.getElem_mem _)
          obtain ⟨A1, k1, e1⟩ := hbx.1.slice
          clear hmb hx f3' hbx
          rw [e1] at q1 s3 f33 c1' hrb hmb2
          have HRB := Lib.hid hrb
          have HMB := Lib.hid hmb2
          clear hrb hmb2
          have q1' := (World.cell?_setCell_other wr ⟨g, j * 4 + 2, none⟩ ⟨g, j * 4 + 1, none⟩ (.slice A1 512 k1) (by simp)).trans q1
          have HE1 := Lib.hid e1
          clear e1
          go_wp2_with fail
          go_region_held3 (fun W : World => W.cell? ⟨r, 1, none⟩ = some (.slice (some ⟨g, 0, none⟩) L.length c) ∧ W.cell? ⟨g, j * 4 + 1, none⟩ = some (.slice A1 512 k1))
            (first | exact ⟨c1, q1⟩ | exact ⟨c1', q1'⟩)
            (first | fail)
          generalize wr.setCell ⟨g, j * 4 + 2, none⟩ (.slice A1 512 k1) = w7 at *
          go_wp2_with fail
          generalize w7.setCell ⟨g, j * 4 + 3, none⟩ (.bool false) = w8 at *
          exact ⟨⟨j + 1, by go_num, by omega, HRB.out.keep ((Mod.refl none_ _).drew) (fun _ e => e.elim), HMB.out.drew⟩, by simp [intOf]; omega⟩
        · have d1 : decide ((j : Int) < (L.length : Int)) = false := by simpa using hlt
          go_wp2_with fail
          go_ret
          refine ⟨rfl, ⟨.slice A L.length c, L.map syX, ?_⟩, HM.out⟩
          have h := HR.out
          rw [uptoL_all syX L (by omega)] at h
          exact h.at' (flushS t) HR1.out.rep.sync rfl rfl rfl


theorem kept_step' (k : Int) (ks : List Int) (j : Nat) (h : j < ks.length) : decide (k ∈ ks.take (j + 1)) = (decide (k ∈ ks.take j) || (ks[j] == k)) := by
  rw [List.take_succ_eq_append_getElem h, Bool.eq_iff_iff]
  simp only [List.mem_append, List.mem_singleton, decide_eq_true_eq, Bool.or_eq_true, beq_iff_eq]
  constructor
  · rintro (h | h)
    · exact .inl h
    · exact .inr h.symm
  · rintro (h | h)
    · exact .inl h
    · exact .inr h.symm

theorem uptoL_skip (f : RSec → RSec) (L : List RSec) {j : Nat} (h : j < L.length) (hf : f L[j] = L[j]) : uptoL f L (j + 1) = uptoL f L j := by
  have h1 := uptoL_set f L h
  rw [hf] at h1
  rw [← h1]
  have h2 := uptoL_get f L h
  rw [← h2]
  exact List.set_getElem_self _

theorem RefAt.set32 {w : World} {B r : Nat} {X : XS} {lv : Value} {L : List RSec} {s : DS} (h : RefAt w B X r lv L s) :
    RefMem ((w.setCell ⟨r, 3, none⟩ (.bool false)).setCell ⟨r, 2, none⟩ (.int .i64 0)) B X r lv L { s with armed := 0, down := false } ∧ Mod (RM B X) w ((w.setCell ⟨r, 3, none⟩ (.bool false)).setCell ⟨r, 2, none⟩ (.int .i64 0)) := by
  have h1 := heap_setCell_same w r 3 _ _ (.bool false) h.cells
  have h2 := heap_setCell_same _ r 2 _ _ (.int .i64 0) h1
  have hm : Mod (· = r) w ((w.setCell ⟨r, 3, none⟩ (.bool false)).setCell ⟨r, 2, none⟩ (.int .i64 0)) :=
    ((Mod.refl (· = r) w).setCell (p := ⟨r, 3, none⟩) (.inl rfl) _).setCell (p := ⟨r, 2, none⟩) (.inl rfl) _
  exact ⟨⟨h2, h.row.keep hm (fun k hk _ e => hk.2.2 e), fun y hy => ⟨(h.bytes y hy).1.keep hm (fun k hk _ e => hk.2.1 e), (h.bytes y hy).2.keep hm (fun k hk _ e => hk.2.1 e)⟩, h.own, h.n1, by simp, fun k e => Nat.lt_of_lt_of_le (h.xb k e) hm.size⟩, hm.mono (fun k _ e => by subst e; exact h.own)⟩

set_option maxHeartbeats 8000000 in
set_option maxRecDepth 100000 in
theorem rf_wake {w : World} {B r : Nat} {X : XS} {s : DS} (h : RefIs w B X r s) {D : Nat → Prop} {v : Value} {ks : List Int} (hx : Rd w D 1 v ks.length (ints ks)) (hD : ∀ k, D k → k < w.heap.size → ¬ RM B X k) (hlen : ks.length ≤ 140737488355328) :
    Calls Tryz.prog 31 #[.pointer (some ⟨r, 0, none⟩), v] w fun e w' => e = .returned (.tuple #[]) ∧ RefIs w' B X r (wakeS s ks) ∧ Mod (RM B X) w w' := by
  obtain ⟨lv, L, h⟩ := h
  have h2 := h.c2
  have h3 := h.c3
  have f2 := h.fz 2
  have f3 := h.fz 3
  obtain ⟨A, c, rfl⟩ := h.lvf
  obtain ⟨FA, FC, rfl⟩ := hx.slice
  have hfew := h.rep.few h.n1.2
  have HRep := Lib.hid (h.rep.wake ks)
  obtain ⟨hr1, hm1⟩ := h.set32
  have HX := Lib.hid (hx.keep hm1 hD)
  have HD1 := Lib.hid (show ∀ k, D k → k < w.heap.size → ¬ RM B X k from hD)
  have HXO := Lib.hid hx
  have HR1 := Lib.hid hr1
  have HM1 := Lib.hid hm1
  clear h hx hD hr1 hm1
  go_enter Tryz.func31, Tryz.ntmps31
  go_wp2_with fail
  generalize (w.setCell ⟨r, 3, none⟩ (.bool false)).setCell ⟨r, 2, none⟩ (.int .i64 0) = w1 at *
  clear h2 h3 f2 f3
  go_loopw [4] (fun i wr => ∃ j : Nat, i = .int .i64 j ∧ j ≤ L.length ∧ RefMem wr B X r (.slice A L.length c) (uptoL (wkX ks) L j) { s with armed := 0, down := false } ∧ Mod (RM B X) w wr) (fun i _ => L.length - (intOf i).toNat)
  case atStart => exact ⟨0, rfl, Nat.zero_le _, by rw [uptoL_zero]; exact HR1.out, HM1.out⟩
  case round =>
    obtain ⟨j, rfl, hj, hr, hm⟩ := hrel
    have HR := Lib.hid hr
    have HM := Lib.hid hm
    have c1 := hr.c1
    clear hr hm
    by_cases hlt : j < L.length
    · have hlu : j < (uptoL (wkX ks) L j).length := by rw [uptoL_length]; exact hlt
      obtain ⟨g, c', he, hgr, hgx, hfz, q0, q1, q2, q3⟩ := HR.out.at_ hlu
      have hgetj := uptoL_get (wkX ks) L hlt
      rw [uptoL_length] at he
      simp only [Value.slice.injEq] at he
      obtain ⟨rfl, _, rfl⟩ := he
      rw [hgetj] at q0 q1 q2 q3
      have p1 := hfz (j * 4 + 1)
      have p2 := hfz (j * 4 + 2)
      have HGR := Lib.hid hgr
      have d1 : decide ((j : Int) < (L.length : Int)) = true := by simpa using hlt
      have d2 : (j : Int) < (L.length : Int) := by omega
      obtain ⟨x, hx⟩ : ∃ x, L[j] = x := ⟨_, rfl⟩
      have hskip := uptoL_skip (wkX ks) L hlt
      have HXJ := Lib.hid hx
      have hbx := HR.out.bytes x (by rw [← hx, ← hgetj]; exact List.getElem_mem _)
      obtain ⟨A1, k1, e1⟩ := hbx.1.slice
      obtain ⟨A2, k2, e2⟩ := hbx.2.slice
      rw [hx] at q0 q1 q2 q3 hskip
      rw [e1] at q1
      rw [e2] at q2
      have HSK := Lib.hid hskip
      have HE2 := Lib.hid e2
      have HE1 := Lib.hid e1
      clear hgetj hfz hgr hgx hlu hx hskip hbx e1 e2
      cases hop : x.op with
      | false =>
        rw [hop] at q3
        have hw : wkX ks x = x := by unfold wkX; rw [hop, if_pos rfl]
        have HU := Lib.hid (HSK.out hw)
        clear hw hop
        go_wp2_with fail
        exact ⟨⟨j + 1, by go_num, by omega, by rw [HU.out]; exact HR.out, HM.out⟩, by simp [intOf]; omega⟩
      | true =>
        have q3' := q3
        rw [hop] at q3
        have HOP := Lib.hid hop
        have HQ3 := Lib.hid q3'
        clear hop q3'
        go_wp2_with fail
        obtain ⟨wo, hwo⟩ : ∃ wo : World, wo = wr := ⟨_, rfl⟩
        rw [← hwo] at HR HM c1 q0 q1 q2 q3 p1 p2 HQ3 ⊢
        clear hwo
        have HFW := Lib.hid (HXO.out.keep HM.out HD1.out)
        go_loopw [6, 7] (fun kp q wr => ∃ (t m : Nat), kp = .bool (decide (x.n ∈ ks.take t)) ∧ q = .int .i64 t ∧ t ≤ ks.length ∧ wr = wo.drewN m) (fun _ q _ => ks.length - (intOf q).toNat)
        case atStart => exact ⟨0, 0, by simp, rfl, Nat.zero_le _, rfl⟩
        case round =>
          obtain ⟨t, m, rfl, rfl, ht, rfl⟩ := hrel
          by_cases hlt2 : t < ks.length
          · obtain ⟨b, o, c2, he, _, _, _, hcell⟩ := HFW.out.form (by omega)
            cases he
            have q5 := hcell t (.int .i64 ks[t]) (by simp [ints, hlt2])
            have d3 : decide ((t : Int) < (ks.length : Int)) = true := by simpa using hlt2
            have d4 : (t : Int) < (ks.length : Int) := by omega
            have d5 : (0 : Int) ≤ (t : Int) := by omega
            have d6 : ((t : Int)).toNat = t := by omega
            have HS := Lib.hid (kept_step' x.n ks t hlt2)
            clear hcell
            cases hk : decide (x.n ∈ ks.take t) with
            | true =>
              have HK := Lib.hid hk
              clear hk
              go_wp2_with fail
              go_quiet (fail)
              go_wp2_with fail
              go_roundw
              case rel => exact ⟨t + 1, _, by rw [HS.out, HK.out]; rfl, by go_num, by omega, rfl⟩
              case measure => simp [intOf]; omega
            | false =>
              have HK := Lib.hid hk
              clear hk
              obtain ⟨kt, hkt⟩ : ∃ kt, ks[t] = kt := ⟨_, rfl⟩
              rw [hkt] at q5
              have HKT := Lib.hid hkt
              clear hkt
              cases hh : (kt == x.n) with
              | true =>
                have HH := Lib.hid hh
                go_wp2_with fail
                go_quiet (fail)
                go_wp2_with fail
                go_roundw
                case rel => exact ⟨t + 1, _, by rw [HS.out, HK.out, HKT.out, HH.out]; rfl, by go_num, by omega, rfl⟩
                case measure => simp [intOf]; omega
              | false =>
                have HH := Lib.hid hh
                go_wp2_with fail
                go_quiet (fail)
                go_wp2_with fail
                go_roundw
                case rel => exact ⟨t + 1, _, by rw [HS.out, HK.out, HKT.out, HH.out]; rfl, by go_num, by omega, rfl⟩
                case measure => simp [intOf]; omega
          · have d3 : decide ((t : Int) < (ks.length : Int)) = false := by simpa using hlt2
            have htk : ks.take t = ks := List.take_of_length_le (by omega)
            have HTK := Lib.hid htk
            by_cases hin : x.n ∈ ks
            · have hk : decide (x.n ∈ ks.take t) = true := by rw [htk]; exact decide_eq_true hin
              have hkp : x.n ∈ ks.take t := by rw [htk]; exact hin
              have hf : wkX ks x = syX x := by unfold wkX syX; rw [HOP.out, if_neg (by simp), if_pos hin]
              obtain ⟨hrb, hmb, c1', f3'⟩ := (HR.out.keep ((Mod.refl none_ wo).drewN m) (fun _ e => e.elim)).two (wkX ks) hlt HXJ.out hf
              rw [HE1.out] at hrb hmb c1' f3'
              have f33 := f3' (j * 4 + 3)
              have s3 := (World.cell?_setCell_other (wo.drewN m) ⟨g, j * 4 + 2, none⟩ ⟨g, j * 4 + 3, none⟩ (.slice A1 512 k1) (by simp)).trans HQ3.out
              have HRB := Lib.hid hrb
              have HMB := Lib.hid ((HM.out.drewN m).trans' hmb)
              clear htk hin hf hrb hmb f3'
              go_wp2_with fail
              exact ⟨⟨j + 1, by go_num, by omega, HRB.out, HMB.out⟩, by simp [intOf]; omega⟩
            · have hk : decide (x.n ∈ ks.take t) = false := by rw [htk]; exact decide_eq_false hin
              have hkp : ¬ x.n ∈ ks.take t := by rw [htk]; exact hin
              have hf : wkX ks x = { x with lv := x.sv, lat := x.saf, op := false } := by unfold wkX; rw [HOP.out, if_neg (by simp), if_neg hin]
              obtain ⟨hrb, hmb, c1', f3'⟩ := (HR.out.keep ((Mod.refl none_ wo).drewN m) (fun _ e => e.elim)).two1 (wkX ks) hlt HXJ.out hf
              rw [HE2.out] at hrb hmb c1' f3'
              have f33 := f3' (j * 4 + 3)
              have s3 := (World.cell?_setCell_other (wo.drewN m) ⟨g, j * 4 + 1, none⟩ ⟨g, j * 4 + 3, none⟩ (.slice A2 512 k2) (by simp)).trans HQ3.out
              have HRB := Lib.hid hrb
              have HMB := Lib.hid ((HM.out.drewN m).trans' hmb)
              clear htk hin hf hrb hmb f3'
              go_wp2_with fail
              exact ⟨⟨j + 1, by go_num, by omega, HRB.out, HMB.out⟩, by simp [intOf]; omega⟩
    · have d1 : decide ((j : Int) < (L.length : Int)) = false := by simpa using hlt
      go_wp2_with fail
      go_end0
      refine ⟨rfl, ⟨.slice A L.length c, L.map (wkX ks), ?_⟩, HM.out⟩
      have h := HR.out
      rw [uptoL_all (wkX ks) L (by omega)] at h
      exact h.at' (wakeS s ks) HRep.out rfl rfl rfl

end Go.Proofs.YthbicfbhghcmkaaGreat
