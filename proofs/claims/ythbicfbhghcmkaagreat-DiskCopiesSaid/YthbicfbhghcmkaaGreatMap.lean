/-
  A map from ints to sectors of 512 bytes, in memory: looked up, written, cleared, gone through. No program in sight: the types' numbers are letters.
-/
import Derived.Test.YthbicfbhghcmkaaGreatMem
namespace Go.SM
open Go Go.RowKit

/-- a sector as a value -/
def secV (l : List UInt8) : Value := .agg (u8s l).toArray
/-- a sector of noughts -/
def zs : List UInt8 := List.replicate 512 0
theorem zs_length : zs.length = 512 := List.length_replicate

abbrev Tri := Int × List UInt8 × Nat
/-- an entry: its key, its bytes, its stamp -/
def ent (t : Tri) : MapEntry := { key := .int .i64 t.1, val := secV t.2.1, born := t.2.2 }

structure Ents (ts : List Tri) (clk : Nat) (f : Int → Option (List UInt8)) : Prop where
  keys : (ts.map (·.1)).Nodup
  stamps : (ts.map (·.2.2)).Nodup
  lt : ∀ t ∈ ts, t.2.2 < clk
  len : ∀ t ∈ ts, t.2.1.length = 512
  val : ∀ k, f k = (ts.find? (·.1 == k)).map (·.2.1)

def MapIs (w : World) (r : Nat) (f : Int → Option (List UInt8)) : Prop :=
  ∃ ts clk, w.heap[r]? = some (.map (ts.map ent).toArray clk) ∧ Ents ts clk f

theorem MapIs.lt {w : World} {r : Nat} {f : Int → Option (List UInt8)} (h : MapIs w r f) : r < w.heap.size := by
  obtain ⟨ts, clk, hb, _⟩ := h
  exact (Array.getElem?_eq_some_iff.1 hb).1
theorem MapIs.keep {w w' : World} {S : Nat → Prop} {r : Nat} {f : Int → Option (List UInt8)} (h : MapIs w r f) (hm : Mod S w w') (hn : ¬ S r) : MapIs w' r f := by
  obtain ⟨ts, clk, hb, he⟩ := h
  exact ⟨ts, clk, hm.get hb hn, he⟩

theorem MapIs.len {w : World} {r : Nat} {f : Int → Option (List UInt8)} (h : MapIs w r f) {k : Int} {l : List UInt8} (hf : f k = some l) : l.length = 512 := by
  obtain ⟨ts, clk, hb, he⟩ := h
  rw [he.val k] at hf
  obtain ⟨t, ht, rfl⟩ := Option.map_eq_some_iff.1 hf
  exact he.len t (List.mem_of_find?_eq_some ht)

theorem Ents.empty (clk : Nat) : Ents [] clk (fun _ => none) := ⟨by simp, by simp, by simp, by simp, by simp⟩

def findT (k : Int) : List Tri → Nat → Option (Nat × Value)
  | [], _ => none
  | t :: r, i => if k = t.1 then some (i, secV t.2.1) else findT k r (i + 1)

theorem findNow_ent (kd : IntKind) (k : Int) (ts : List Tri) : ∀ i, Instr.findNow (.int kd) (.int .i64 k) (ts.map ent) i = some (findT k ts i) := by
  induction ts with
  | nil => intro i; rfl
  | cons t r ih =>
    intro i
    by_cases h : k = t.1
    · simp [Instr.findNow, ent, Instr.sameNow, findT, h]
    · have hb : (k == t.1) = false := by simpa using h
      simp only [List.map_cons, Instr.findNow, ent, Instr.sameNow, if_true, hb, findT, if_neg h]
      exact ih (i + 1)

theorem findT_val (k : Int) (ts : List Tri) : ∀ i, (findT k ts i).map (·.2) = (ts.find? (·.1 == k)).map fun t => secV t.2.1 := by
  induction ts with
  | nil => intro i; rfl
  | cons t r ih =>
    intro i
    by_cases h : k = t.1
    · simp [findT, h]
    · have h' : ¬ t.1 = k := fun e => h e.symm
      simp only [findT, if_neg h, List.find?_cons]
      rw [show (t.1 == k) = false by simpa using h']
      exact ih (i + 1)

theorem checkKey_int {P : Program} {kt : TypeId} {kd : IntKind} (hk : P.underlying kt = some (.int kd)) (e : Bool) (n : Nat) (k : IntKind) (x : Int) (w : World) :
    (Instr.checkKey e (n + 1) kt (.int k x)).run P w = .ok () w := by
  simp [Instr.checkKey, run_underlying hk]

section
variable {P : Program} {w : World} {t kt e : TypeId} {kd : IntKind} {r : Nat} {f : Int → Option (List UInt8)}

theorem findKey_ent (hk : P.underlying kt = some (.int kd)) (k : Int) (ts : List Tri) (w : World) :
    (Instr.findKey kt (.int .i64 k) (ts.map ent)).run P w = .ok (findT k ts 0) w := by
  simp [Instr.findKey, run_underlying hk, findNow_ent]

/-- what a lookup answers -/
def lookV (ok : Bool) (o : Option (List UInt8)) : Value := if ok then .tuple #[secV (o.getD zs), .bool o.isSome] else secV (o.getD zs)

theorem run_lookup (ht : P.underlying t = some (.map kt e)) (hk : P.underlying kt = some (.int kd)) (hz : (zeroValue e).run P w = .ok (secV zs) w) (h : MapIs w r f) (k : Int) (ok : Bool) :
    (Instr.lookup t (.map (some r)) (.int .i64 k) ok).run P w = .ok (lookV ok (f k)) w := by
  obtain ⟨ts, clk, hb, he⟩ := h
  have hc := fun b => checkKey_int hk b 9999 .i64 k w
  have hfv := findT_val k ts 0
  rw [he.val k]
  cases hf : findT k ts 0 with
  | none =>
    rw [hf] at hfv
    have hn : ts.find? (·.1 == k) = none := by
      cases hh : ts.find? (·.1 == k) with
      | none => rfl
      | some x => rw [hh] at hfv; simp at hfv
    rw [hn]
    cases ok <;> simp [Instr.lookup, run_underlying ht, getObj, Sem.run, hb, hc, findKey_ent hk, hf, hz, lookV]
  | some p =>
    rw [hf] at hfv
    cases hh : ts.find? (·.1 == k) with
    | none => rw [hh] at hfv; simp at hfv
    | some x =>
      rw [hh] at hfv
      simp at hfv
      obtain ⟨i, v⟩ := p
      simp at hfv
      subst hfv
      cases ok <;> simp [Instr.lookup, run_underlying ht, getObj, Sem.run, hb, hc, findKey_ent hk, hf, lookV]

/-- an entry written -/
def updT (k : Int) (l : List UInt8) (ts : List Tri) : List Tri := ts.map fun t => if t.1 = k then (k, l, t.2.2) else t

theorem updT_cons (k : Int) (l : List UInt8) (x : Tri) (r : List Tri) : updT k l (x :: r) = (if x.1 = k then (k, l, x.2.2) else x) :: updT k l r := rfl

theorem findT_none {k : Int} {ts : List Tri} : ∀ {i}, findT k ts i = none → ∀ t ∈ ts, t.1 ≠ k := by
  induction ts with
  | nil => intro i _ t ht; simp at ht
  | cons x r ih =>
    intro i h t ht
    unfold findT at h
    split at h
    · cases h
    · rename_i hx
      rcases List.mem_cons.1 ht with rfl | hm
      · exact fun e => hx e.symm
      · exact ih h t hm

theorem updT_other {k : Int} {l : List UInt8} {ts : List Tri} (h : ∀ t ∈ ts, t.1 ≠ k) : updT k l ts = ts := by
  induction ts with
  | nil => rfl
  | cons x r ih =>
    unfold updT at *
    rw [List.map_cons, if_neg (h x (by simp)), ih (fun t ht => h t (by simp [ht]))]

theorem modify_ent {k : Int} {l : List UInt8} {ts : List Tri} (hn : (ts.map (·.1)).Nodup) : ∀ {i j v}, findT k ts i = some (j, v) →
    i ≤ j ∧ (ts.map ent)[j - i]?.map (·.key) = some (.int .i64 k) ∧ (ts.map ent).modify (j - i) (fun e => { e with key := .int .i64 k, val := secV l }) = (updT k l ts).map ent := by
  induction ts with
  | nil => intro i j v h; simp [findT] at h
  | cons x r ih =>
    intro i j v h
    rw [List.map_cons, List.nodup_cons] at hn
    unfold findT at h
    split at h
    · rename_i hx
      simp only [Option.some.injEq, Prod.mk.injEq] at h
      obtain ⟨rfl, _⟩ := h
      refine ⟨Nat.le_refl _, by simp [ent, hx], ?_⟩
      have hr : ∀ t ∈ r, t.1 ≠ k := fun t ht e => hn.1 (by rw [← hx, ← e]; exact List.mem_map_of_mem ht)
      have hu := updT_other (l := l) hr
      rw [updT_cons, if_pos hx.symm, hu]
      simp [ent]
    · rename_i hx
      obtain ⟨h1, h2, h3⟩ := ih hn.2 h
      refine ⟨by omega, ?_, ?_⟩
      · rw [show j - i = (j - (i + 1)) + 1 by omega]
        simpa using h2
      · rw [show j - i = (j - (i + 1)) + 1 by omega]
        rw [updT_cons, if_neg (fun e => hx e.symm), List.map_cons, List.map_cons, List.modify_succ_cons, h3]

theorem updT_keys (k : Int) (l : List UInt8) (ts : List Tri) : (updT k l ts).map (·.1) = ts.map (·.1) := by
  unfold updT
  rw [List.map_map]
  refine List.map_congr_left fun t _ => ?_
  show (if t.1 = k then (k, l, t.2.2) else t).1 = t.1
  split
  · rename_i h; exact h.symm
  · rfl
theorem updT_stamps (k : Int) (l : List UInt8) (ts : List Tri) : (updT k l ts).map (·.2.2) = ts.map (·.2.2) := by
  unfold updT
  rw [List.map_map]
  refine List.map_congr_left fun t _ => ?_
  show (if t.1 = k then (k, l, t.2.2) else t).2.2 = t.2.2
  split <;> rfl
theorem updT_mem {k : Int} {l : List UInt8} {ts : List Tri} {t : Tri} (h : t ∈ updT k l ts) : (∃ s ∈ ts, s.2.2 = t.2.2) ∧ (t.2.1 = l ∨ t ∈ ts) := by
  unfold updT at h
  obtain ⟨s, hs, rfl⟩ := List.mem_map.1 h
  refine ⟨⟨s, hs, by split <;> rfl⟩, ?_⟩
  split
  · exact .inl rfl
  · exact .inr hs
theorem updT_find (k : Int) (l : List UInt8) (ts : List Tri) (j : Int) :
    ((updT k l ts).find? (·.1 == j)).map (·.2.1) = if j = k then (ts.find? (·.1 == j)).map (fun _ => l) else (ts.find? (·.1 == j)).map (·.2.1) := by
  induction ts with
  | nil => simp [updT]
  | cons x r ih =>
    have e : updT k l (x :: r) = (if x.1 = k then (k, l, x.2.2) else x) :: updT k l r := rfl
    rw [e]
    by_cases hx : x.1 = k
    · rw [if_pos hx]
      by_cases hj : j = k
      · subst hj; simp [hx]
      · have h1 : (k == j) = false := by simpa using fun e => hj e.symm
        have h2 : (x.1 == j) = false := by rw [hx]; exact h1
        simp only [List.find?_cons, h1, h2]
        exact ih
    · rw [if_neg hx]
      by_cases hj : x.1 = j
      · have hjk : ¬ j = k := fun e => hx (hj.trans e)
        have h1 : (x.1 == j) = true := by simpa using hj
        simp only [List.find?_cons, h1]
        rw [if_neg hjk]
      · have h1 : (x.1 == j) = false := by simpa using hj
        simp only [List.find?_cons, h1]
        exact ih

/-- f, but l at k -/
def put (f : Int → Option (List UInt8)) (k : Int) (l : List UInt8) : Int → Option (List UInt8) := fun j => if j = k then some l else f j

theorem run_mapUpdate (ht : P.underlying t = some (.map kt e)) (hk : P.underlying kt = some (.int kd)) (h : MapIs w r f) (k : Int) (l : List UInt8) (hl : l.length = 512) :
    ∃ o, (Instr.mapUpdate t (.map (some r)) (.int .i64 k) (secV l)).run P w = .ok () (setB w r o) ∧ MapIs (setB w r o) r (put f k l) := by
  have hlt := h.lt
  obtain ⟨ts, clk, hb, he⟩ := h
  have hc := fun b => checkKey_int hk b 9999 .i64 k w
  have hfv := findT_val k ts 0
  cases hf : findT k ts 0 with
  | none =>
    have hno := findT_none hf
    refine ⟨.map ((ts ++ [(k, l, clk)]).map ent).toArray (clk + 1), ?_, ⟨_, _, heap_setB_same _ _ _ hlt, ?_⟩⟩
    · have e1 : ((ts ++ [(k, l, clk)]).map ent).toArray = (ts.map ent).toArray.push (ent (k, l, clk)) := by simp
      rw [e1]
      simp [Instr.mapUpdate, run_underlying ht, getObj, setObj, Sem.run, hb, hc, findKey_ent hk, hf, setB, ent]
    · refine ⟨?_, ?_, ?_, ?_, ?_⟩
      · rw [List.map_append, List.nodup_append]
        refine ⟨he.keys, by simp, ?_⟩
        intro a ha b hb'
        obtain ⟨x, hx, rfl⟩ := List.mem_map.1 ha
        simp at hb'
        subst hb'
        exact hno x hx
      · rw [List.map_append, List.nodup_append]
        refine ⟨he.stamps, by simp, ?_⟩
        intro a ha b hb'
        obtain ⟨x, hx, rfl⟩ := List.mem_map.1 ha
        simp at hb'
        subst hb'
        have := he.lt x hx
        omega
      · intro x hx
        rcases List.mem_append.1 hx with hx | hx
        · have := he.lt x hx; omega
        · simp at hx; subst hx; simp
      · intro x hx
        rcases List.mem_append.1 hx with hx | hx
        · exact he.len x hx
        · simp at hx; subst hx; exact hl
      · intro j
        unfold put
        rw [List.find?_append]
        by_cases hj : j = k
        · subst hj
          have hn : ts.find? (·.1 == j) = none := by
            rw [List.find?_eq_none]
            intro x hx
            simpa using hno x hx
          simp [hn]
        · have h1 : (k == j) = false := by simpa using fun e => hj e.symm
          rw [if_neg hj, he.val j]
          simp only [List.find?_cons, h1, List.find?_nil, Option.or_none]
  | some p =>
    obtain ⟨i, v⟩ := p
    obtain ⟨_, h2, h3⟩ := modify_ent (l := l) he.keys hf
    simp only [Nat.sub_zero] at h2 h3
    refine ⟨.map ((updT k l ts).map ent).toArray clk, ?_, ⟨_, _, heap_setB_same _ _ _ hlt, ?_⟩⟩
    · have e1 : ((updT k l ts).map ent).toArray = (ts.map ent).toArray.modify i (fun e => { e with key := .int .i64 k, val := secV l }) := by
        rw [← h3]
        simp
      have hkey : ((ts.map ent).toArray[i]?.map (·.key)).getD (.int .i64 k) = .int .i64 k := by
        rw [List.getElem?_toArray, h2]
        rfl
      rw [e1]
      simp only [Instr.mapUpdate, Sem.run_bind, run_underlying ht, Result.andThen_ok, getObj, Sem.run, hb, hc, findKey_ent hk, hf, hkey]
      simp [Instr.keyThatStays, Instr.sameBits, setObj, Sem.run, hb, setB]
    · refine ⟨by rw [updT_keys]; exact he.keys, by rw [updT_stamps]; exact he.stamps, ?_, ?_, ?_⟩
      · intro x hx
        obtain ⟨⟨s, hs, e⟩, _⟩ := updT_mem hx
        rw [← e]
        exact he.lt s hs
      · intro x hx
        rcases (updT_mem hx).2 with h | h
        · rw [h]; exact hl
        · exact he.len x h
      · intro j
        rw [updT_find]
        unfold put
        rw [hf] at hfv
        by_cases hj : j = k
        · rw [if_pos hj, if_pos hj]
          subst hj
          cases hh : ts.find? (·.1 == j) with
          | none => rw [hh] at hfv; simp at hfv
          | some x => rfl
        · rw [if_neg hj, if_neg hj]
          exact he.val j

/-- 'clear' -/
theorem run_clear (ht : P.underlying t = some (.map kt e)) (ty : TypeId) (h : MapIs w r f) :
    ∃ o, (Builtin.clear_ #[t] ty #[.map (some r)]).run P w = .ok (.tuple #[]) (setB w r o) ∧ MapIs (setB w r o) r (fun _ => none) := by
  have hlt := h.lt
  obtain ⟨ts, clk, hb, he⟩ := h
  refine ⟨.map #[] clk, ?_, ⟨[], clk, heap_setB_same _ _ _ hlt, Ents.empty clk⟩⟩
  simp [Builtin.clear_, run_underlying ht, getObj, setObj, Sem.run, hb, setB]

/-- a new map -/
theorem MapIs.new (w : World) : MapIs (w.alloc (.map #[] 0)) w.heap.size (fun _ => none) :=
  ⟨[], 0, heap_alloc_new w _, Ents.empty 0⟩

/-! ### going through a map -/

/-- block r is an iterator over the map in block m, which is ts; it has gone through those of the stamps 'seen' -/
def It (w : World) (r m : Nat) (ts : List Tri) (clk : Nat) (seen : List Nat) : Prop :=
  w.heap[r]? = some (.mapIter (some m) clk seen.toArray clk) ∧ w.heap[m]? = some (.map (ts.map ent).toArray clk) ∧ (∀ t ∈ ts, t.2.2 < clk) ∧ (ts.map (·.2.2)).Nodup ∧ r ≠ m

theorem It.keep {w w' : World} {S : Nat → Prop} {r m : Nat} {ts : List Tri} {clk : Nat} {seen : List Nat} (h : It w r m ts clk seen) (hm : Mod S w w') (h1 : ¬ S r) (h2 : ¬ S m) : It w' r m ts clk seen :=
  ⟨hm.get h.1 h1, hm.get h.2.1 h2, h.2.2⟩

theorem run_range (ht : P.underlying t = some (.map kt e)) {m : Nat} {ts : List Tri} {clk : Nat} (hb : w.heap[m]? = some (.map (ts.map ent).toArray clk)) (hl : ∀ t ∈ ts, t.2.2 < clk) (hn : (ts.map (·.2.2)).Nodup) :
    (Instr.range t (.map (some m))).run P w = .ok (.pointer (some ⟨w.heap.size, 0, none⟩)) (w.alloc (.mapIter (some m) clk #[] clk)) ∧ It (w.alloc (.mapIter (some m) clk #[] clk)) w.heap.size m ts clk [] := by
  have hlt : m < w.heap.size := (Array.getElem?_eq_some_iff.1 hb).1
  refine ⟨by simp [Instr.range, run_underlying ht, getObj, Sem.run, hb, newObj], heap_alloc_new w _, (Below.heap_alloc w _ m hlt).trans hb, hl, hn, by omega⟩

theorem filter_none {α : Type} (l : List α) (p : α → Bool) (h : ∀ x ∈ l, p x = false) : l.filter p = [] := by
  rw [List.filter_eq_nil_iff]
  intro x hx
  rw [h x hx]
  simp

theorem run_next {m : Nat} {ts : List Tri} {clk : Nat} {seen : List Nat} (h : It w r m ts clk seen) (ty : TypeId) :
    ((∀ t ∈ ts, t.2.2 ∈ seen) ∧ (Instr.next (.pointer (some ⟨r, 0, none⟩)) false ty).run P w = .ok (.tuple #[.bool false]) w) ∨
    ∃ t w1 o, t ∈ ts ∧ t.2.2 ∉ seen ∧ (w1 = w ∨ w1 = w.drew) ∧ (Instr.next (.pointer (some ⟨r, 0, none⟩)) false ty).run P w = .ok (.tuple #[.bool true, .int .i64 t.1, secV t.2.1]) (setB w1 r o) ∧ It (setB w1 r o) r m ts clk (seen ++ [t.2.2]) := by
  obtain ⟨h1, h2, h3, h4, h5⟩ := h
  have hlt : r < w.heap.size := (Array.getElem?_eq_some_iff.1 h1).1
  generalize hleft : ts.filter (fun t => !seen.contains t.2.2) = left
  have el : (ts.map ent).filter (fun e => !seen.contains e.born) = left.map ent := by
    rw [← hleft, List.filter_map]
    rfl
  have eo : (left.map ent).filter (fun e => decide (e.born < clk)) = left.map ent := by
    rw [List.filter_eq_self]
    intro e he
    obtain ⟨t, ht, rfl⟩ := List.mem_map.1 he
    rw [← hleft] at ht
    exact decide_eq_true (h3 t (List.mem_filter.1 ht).1)
  have en : (left.map ent).filter (fun e => decide (e.born ≥ clk)) = [] := by
    apply filter_none
    intro e he
    obtain ⟨t, ht, rfl⟩ := List.mem_map.1 he
    rw [← hleft] at ht
    have := h3 t (List.mem_filter.1 ht).1
    simp [ent]
    omega
  have hgone : (!seen.toArray.isEmpty && !(ts.map ent).toArray.isEmpty && (ts.map ent).toArray.all (fun e => decide (e.born ≥ clk))) = false := by
    cases ts with
    | nil => simp
    | cons x r =>
      have := h3 x (by simp)
      have hx : decide ((ent x).born ≥ clk) = false := by simp [ent]; omega
      simp [hx]
  cases left with
  | nil =>
    refine .inl ⟨?_, ?_⟩
    · intro t ht
      by_cases hs : t.2.2 ∈ seen
      · exact hs
      · have : t ∈ ts.filter (fun t => !seen.contains t.2.2) := List.mem_filter.2 ⟨ht, by simpa using hs⟩
        rw [hleft] at this
        simp at this
    · have el' : (ts.map ent).toArray.filter (fun e => !seen.toArray.contains e.born) = #[] := by
        rw [List.filter_toArray]
        simp only [List.contains_toArray]
        rw [el]
        rfl
      have e1 : (#[] : Array MapEntry).filter (fun e => decide (e.born < clk)) = #[] := rfl
      have e2 : (#[] : Array MapEntry).filter (fun e => decide (e.born ≥ clk)) = #[] := rfl
      have e3 : (#[] : Array MapEntry).isEmpty = true := rfl
      have e4 : ((#[none] : Array (Option MapEntry)) ++ ((#[] : Array MapEntry) ++ #[]).map some).size = 1 := by simp
      have e5 : ((#[none] : Array (Option MapEntry)) ++ ((#[] : Array MapEntry) ++ #[]).map some)[0]? = some none := by simp
      have hch : (choose (.mapNext 1)).run P w = .ok 0 w := rfl
      simp only [Instr.next, Sem.run_bind, getObj, Sem.run, h1, h2, Result.andThen_ok, hgone, el', e1, e2, e3, if_true, Bool.false_eq_true, if_false, e4, Sem.run_pure, hch, e5]
  | cons x0 rest =>
    refine .inr ?_
    have el' : (ts.map ent).toArray.filter (fun e => !seen.toArray.contains e.born) = ((x0 :: rest).map ent).toArray := by
      rw [List.filter_toArray]
      simp only [List.contains_toArray]
      rw [el]
    have eo' : ((x0 :: rest).map ent).toArray.filter (fun e => decide (e.born < clk)) = ((x0 :: rest).map ent).toArray := by
      rw [List.filter_toArray, eo]
    have en' : ((x0 :: rest).map ent).toArray.filter (fun e => decide (e.born ≥ clk)) = #[] := by
      rw [List.filter_toArray, en]
    have main : ∀ (w1 : World) (k : Nat), (w1 = w ∨ w1 = w.drew) → (choose (.mapNext (x0 :: rest).length)).run P w = .ok k w1 → k < (x0 :: rest).length →
        ∃ t w1 o, t ∈ ts ∧ t.2.2 ∉ seen ∧ (w1 = w ∨ w1 = w.drew) ∧ (Instr.next (.pointer (some ⟨r, 0, none⟩)) false ty).run P w = .ok (.tuple #[.bool true, .int .i64 t.1, secV t.2.1]) (setB w1 r o) ∧ It (setB w1 r o) r m ts clk (seen ++ [t.2.2]) := by
      intro w1 k hw1 hk hkl
      have hk2 : (x0 :: rest)[k]? = some (x0 :: rest)[k] := List.getElem?_eq_getElem hkl
      have hmem : (x0 :: rest)[k] ∈ ts.filter (fun t => !seen.contains t.2.2) := by rw [hleft]; exact List.getElem_mem hkl
      have hs : (x0 :: rest)[k].2.2 ∉ seen := by simpa using (List.mem_filter.1 hmem).2
      have h1' : w1.heap[r]? = some (.mapIter (some m) clk seen.toArray clk) := by rcases hw1 with rfl | rfl <;> exact h1
      have h2' : w1.heap[m]? = some (.map (ts.map ent).toArray clk) := by rcases hw1 with rfl | rfl <;> exact h2
      have hlt' : r < w1.heap.size := by rcases hw1 with rfl | rfl <;> exact hlt
      refine ⟨(x0 :: rest)[k], w1, .mapIter (some m) clk (seen ++ [(x0 :: rest)[k].2.2]).toArray clk, (List.mem_filter.1 hmem).1, hs, hw1, ?_, heap_setB_same _ _ _ hlt', (heap_setB_other _ _ _ _ (Ne.symm h5)).trans h2', h3, h4, h5⟩
      have hne : ((x0 :: rest).map ent).toArray.isEmpty = false := by simp
      have hsz : ((#[] : Array (Option MapEntry)) ++ (((x0 :: rest).map ent).toArray ++ #[]).map some).size = (x0 :: rest).length := by simp
      have hat : ((#[] : Array (Option MapEntry)) ++ (((x0 :: rest).map ent).toArray ++ #[]).map some)[k]? = some (some (ent (x0 :: rest)[k])) := by
        simp only [Array.append_empty, List.map_toArray, Array.empty_append, List.getElem?_toArray, List.getElem?_map, hk2, Option.map_some]
      simp only [Instr.next, Sem.run_bind, getObj, Sem.run, h1, h2, Result.andThen_ok, hgone, el', eo', en', hne, Bool.false_eq_true, if_false, hsz, Sem.run_pure, hk, hat]
      simp [setObj, Sem.run, h1', ent, setB]
    cases rest with
    | nil => exact main w 0 (.inl rfl) rfl (by simp)
    | cons x1 rest =>
      refine main w.drew ((Question.mapNext (x0 :: x1 :: rest).length).cut (w.tape w.drawn (Question.mapNext (x0 :: x1 :: rest).length))) (.inr rfl) ?_ ?_
      · have hfo : (Question.mapNext (x0 :: x1 :: rest).length).forced = false := by simp [Question.forced]
        show Sem.run P (.choose _ .pure) w = _
        simp only [Sem.run, hfo]
        rfl
      · exact Nat.mod_lt _ (by simp)

theorem run_entry {m : Nat} {ts : List Tri} {clk : Nat} {seen : List Nat} {x : Tri} (hx : x ∈ ts) (h : It w r m ts clk (seen ++ [x.2.2])) :
    (Instr.entry (.pointer (some ⟨r, 0, none⟩))).run P w = .ok (.tuple #[.int .i64 x.1, secV x.2.1]) w := by
  obtain ⟨h1, h2, h3, h4, h5⟩ := h
  have hf : (ts.map ent).find? (fun e => e.born == x.2.2) = some (ent x) := by
    clear h2 h3
    induction ts with
    | nil => simp at hx
    | cons y r ih =>
      rw [List.map_cons, List.nodup_cons] at h4
      rw [List.map_cons, List.find?_cons]
      rcases List.mem_cons.1 hx with rfl | hm
      · simp [ent]
      · have hne : ((ent y).born == x.2.2) = false := by
          simp only [ent, beq_eq_false_iff_ne]
          intro e
          exact h4.1 (by rw [e]; exact List.mem_map_of_mem (f := fun t : Tri => t.2.2) hm)
        rw [hne]
        exact ih hm h4.2
  simp [Instr.entry, getObj, Sem.run, h1, h2, hf, ent]

/-- how many entries an iterator has gone through -/
def seenOf (w : World) (r : Nat) : Nat := match w.heap[r]? with | some (.mapIter _ _ s _) => s.size | _ => 0
theorem It.seenOf {m : Nat} {ts : List Tri} {clk : Nat} {seen : List Nat} (h : It w r m ts clk seen) : seenOf w r = seen.length := by
  unfold SM.seenOf
  rw [h.1]
  simp

/-- fs, and over it the entries whose stamps are seen -/
def overT (ts : List Tri) (seen : List Nat) (fs : Int → Option (List UInt8)) : Int → Option (List UInt8) := fun k =>
  match ts.find? (·.1 == k) with
  | some t => if t.2.2 ∈ seen then some t.2.1 else fs k
  | none => fs k

theorem overT_nil (ts : List Tri) (fs : Int → Option (List UInt8)) : overT ts [] fs = fs := by
  funext k
  unfold overT
  split
  · simp
  · rfl

theorem find_key {ts : List Tri} (hk : (ts.map (·.1)).Nodup) {x : Tri} (hx : x ∈ ts) : ts.find? (·.1 == x.1) = some x := by
  induction ts with
  | nil => simp at hx
  | cons y r ih =>
    rw [List.map_cons, List.nodup_cons] at hk
    rw [List.find?_cons]
    rcases List.mem_cons.1 hx with rfl | hm
    · simp
    · have hne : (y.1 == x.1) = false := by
        rw [beq_eq_false_iff_ne]
        intro e
        exact hk.1 (by rw [e]; exact List.mem_map_of_mem (f := fun t : Tri => t.1) hm)
      rw [hne]
      exact ih hk.2 hm

theorem stamp_inj {ts : List Tri} (hs : (ts.map (·.2.2)).Nodup) {x y : Tri} (hx : x ∈ ts) (hy : y ∈ ts) (e : x.2.2 = y.2.2) : x = y := by
  induction ts with
  | nil => simp at hx
  | cons z r ih =>
    rw [List.map_cons, List.nodup_cons] at hs
    rcases List.mem_cons.1 hx with hx | hx <;> rcases List.mem_cons.1 hy with hy | hy
    · rw [hx, hy]
    · exact absurd (by rw [← hx, e]; exact List.mem_map_of_mem (f := fun t : Tri => t.2.2) hy) hs.1
    · exact absurd (by rw [← hy, ← e]; exact List.mem_map_of_mem (f := fun t : Tri => t.2.2) hx) hs.1
    · exact ih hs.2 hx hy

theorem overT_step {ts : List Tri} (hk : (ts.map (·.1)).Nodup) (hs : (ts.map (·.2.2)).Nodup) {x : Tri} (hx : x ∈ ts) (seen : List Nat) (fs : Int → Option (List UInt8)) :
    put (overT ts seen fs) x.1 x.2.1 = overT ts (seen ++ [x.2.2]) fs := by
  funext k
  unfold put
  by_cases e : k = x.1
  · subst e
    rw [if_pos rfl]
    unfold overT
    rw [find_key hk hx]
    simp
  · rw [if_neg e]
    unfold overT
    cases hf : ts.find? (·.1 == k) with
    | none => rfl
    | some y =>
      have hy := List.mem_of_find?_eq_some hf
      have hyk : y.1 = k := by simpa using List.find?_some hf
      have hne : y.2.2 ≠ x.2.2 := fun e2 => e (by rw [← stamp_inj hs hy hx e2, hyk])
      simp [hne]

/-- behind the last one -/
def over (fo fs : Int → Option (List UInt8)) : Int → Option (List UInt8) := fun k => match fo k with | some l => some l | none => fs k

theorem overT_all {ts : List Tri} {clk : Nat} {fo : Int → Option (List UInt8)} (he : Ents ts clk fo) {seen : List Nat} (h : ∀ t ∈ ts, t.2.2 ∈ seen) (fs : Int → Option (List UInt8)) : overT ts seen fs = over fo fs := by
  funext k
  unfold overT over
  rw [he.val k]
  cases hf : ts.find? (·.1 == k) with
  | none => rfl
  | some y => simp [h y (List.mem_of_find?_eq_some hf)]

theorem nodup_le {α : Type} [BEq α] [LawfulBEq α] {l : List α} (hn : l.Nodup) : ∀ {m : List α}, (∀ x ∈ l, x ∈ m) → l.length ≤ m.length := by
  induction l with
  | nil => intro m _; simp
  | cons x r ih =>
    intro m h
    rw [List.nodup_cons] at hn
    have hx := h x (by simp)
    have hr : ∀ y ∈ r, y ∈ m.erase x := fun y hy => (List.mem_erase_of_ne (fun e => hn.1 (by rw [← e]; exact hy))).2 (h y (by simp [hy]))
    have h1 := ih hn.2 hr
    have h2 := List.length_erase_of_mem hx
    have h3 : 0 < m.length := List.length_pos_of_mem hx
    simp only [List.length_cons]
    omega

end
end Go.SM
