/-
  Operations on whole arrays, and on maps of sectors, in the form that the walk takes. No program in sight.
-/
import Derived.Test.YthbicfbhghcmkaaGreatMap
import Derived.Maps.AppendAt
import Derived.StillTailTactics
import Derived.Maps.RangeWalk
import Derived.OrdersHeld
namespace Go.SM
open Go Go.RowKit

/-- the walk stands still here -/
def Stop (p : Prop) : Prop := p
theorem un {p : Prop} (h : p) : Stop p := h
theorem at_ {P : Program} {w : World} {ops : Array Oper} {rest : List Oper} {o : Oper} {a : Act} {Q : Exit → Act → World → Prop} (h : Stop (wpList P ops Q (o :: rest) a w)) : wpList P ops Q (o :: rest) a w := h

theorem mod_setB (w : World) (r : Nat) (o : Obj) : Mod (· = r) w (setB w r o) := Mod.setB (S := (· = r)) (Mod.refl _ w) (.inl rfl) o

section
variable {P : Program} {w : World} {ops : Array Oper} {rest : List Oper} {o : Oper} {a : Act} {Q : Exit → Act → World → Prop}

theorem wpList_val {s : Sem Value} {v : Value} {w1 : World} (hg : o.guard = none) (he : execOp a.eval o = (do pure (Next.value (← s)))) (hs : s.run P w = .ok v w1)
    (h : wpList P ops Q rest (a.put o.dst v) w1) : wpList P ops Q (o :: rest) a w := by
  refine wpList_plain hg fun K hK => ?_
  unfold Oper.wp
  rw [he, Sem.run_bind, hs]
  exact hK _ _ h

theorem wpList_unit {s : Sem Unit} {w1 : World} (hg : o.guard = none) (he : execOp a.eval o = (do s; pure Next.skip)) (hs : s.run P w = .ok () w1)
    (h : wpList P ops Q rest (a.put o.dst undef) w1) : wpList P ops Q (o :: rest) a w := by
  refine wpList_plain hg fun K hK => ?_
  unfold Oper.wp
  rw [he, Sem.run_bind, hs]
  exact hK _ _ h

/-- a new variable of an array's type -/
theorem wpList_alloc (hg : o.guard = none) (e : TypeId) (hop : o.op = .alloc e) (zc : Array Value) (hz : (zeroValue e).run P w = .ok (.agg zc) w)
    (h : ∀ w1 g, w1.heap[g]? = some (.cells zc e (0, 0)) → Mod none_ w w1 → w.heap.size ≤ g → wpList P ops Q rest (a.put o.dst (.pointer (some ⟨g, 0, none⟩))) w1) :
    wpList P ops Q (o :: rest) a w := by
  refine wpList_val (s := Instr.alloc e true (.tuple #[])) (v := .pointer (some ⟨w.heap.size, 0, none⟩)) (w1 := w.alloc (.cells zc e)) hg (by unfold execOp; rw [hop]) ?_
    (h _ _ (heap_alloc_new w _) ((Mod.refl _ _).alloc _) (Nat.le_refl _))
  simp [Instr.alloc, hz, newVar, newRow, newObj, Sem.run, Value.cells]

/-- a value put into a new variable -/
theorem wpList_box (hg : o.guard = none) (e : TypeId) (x : Operand) (hop : o.op = .box e x) (zc : Array Value) (hx : a.eval x = .agg zc)
    (h : ∀ w1 g, w1.heap[g]? = some (.cells zc e (0, 0)) → Mod none_ w w1 → w.heap.size ≤ g → wpList P ops Q rest (a.put o.dst (.pointer (some ⟨g, 0, none⟩))) w1) :
    wpList P ops Q (o :: rest) a w := by
  refine wpList_val (s := Instr.box e (a.eval x)) (v := .pointer (some ⟨w.heap.size, 0, none⟩)) (w1 := w.alloc (.cells zc e)) hg (by unfold execOp; rw [hop]) ?_
    (h _ _ (heap_alloc_new w _) ((Mod.refl _ _).alloc _) (Nat.le_refl _))
  rw [hx]
  simp [Instr.box, newVar, newRow, newObj, Sem.run, Value.cells]

/-- a whole array stored -/
theorem wpList_store (hg : o.guard = none) (e : TypeId) (p x : Operand) (hop : o.op = .store e p x) (g : Nat) (hp : a.eval p = .pointer (some ⟨g, 0, none⟩)) (xs : List Value) (hx : a.eval x = .agg xs.toArray)
    (cur : Array Value) (t : TypeId) (hb : w.heap[g]? = some (.cells cur t (0, 0))) (hsz : cur.size = xs.length) (hi : (P.info? e).map (·.size) = some xs.length) (h1 : ∀ u ∈ xs, u.oneCell' = true)
    (h : ∀ w1, w1.heap[g]? = some (.cells xs.toArray t (0, 0)) → Mod (· = g) w w1 → wpList P ops Q rest (a.put o.dst undef) w1) :
    wpList P ops Q (o :: rest) a w := by
  have hr := run_storeCells_at P g 0 t xs 0 cur w hb (by omega) h1
  have e1 : (cur.toList.take (0 + 0) ++ xs ++ cur.toList.drop (0 + 0 + xs.length)).toArray = xs.toArray := by
    have : cur.toList.drop (0 + 0 + xs.length) = [] := List.drop_eq_nil_of_le (by simp; omega)
    rw [this]
    simp
  rw [e1] at hr
  refine wpList_unit (s := Instr.storeAt e (a.eval p) (a.eval x)) (w1 := w.setRow g xs.toArray) hg (by unfold execOp; rw [hop]) ?_
    (h _ (setRow_heap w g cur _ t _ hb) ⟨rfl, rfl, rfl, by simp, fun k _ hk => setRow_other w g k _ hk⟩)
  rw [hp, hx]
  cases hq : P.info? e with
  | none => simp [hq] at hi
  | some i =>
    have hs : i.size = xs.length := by simpa [hq] using hi
    simp [Instr.storeAt, Instr.sureAddr, storeVar, sizeOf, typeInfo, hq, hs, Value.cells, hr]

theorem block_cells {w : World} {g : Nat} {xs : List Value} {t : TypeId} {fr : Nat × Nat} (hb : w.heap[g]? = some (.cells xs.toArray t fr)) : ∀ (j : Nat) (u : Value), xs[j]? = some u → w.cell? ⟨g, 0 + j, none⟩ = some u := by
  intro j u hu
  rw [cell_of_row w g _ _ _ _ hb, Nat.zero_add]
  simpa using hu

/-- a map's lookup -/
theorem wpList_look (hg : o.guard = none) (t : TypeId) (x k : Operand) (ok : Bool) (hop : o.op = .lookup t x k ok) (kt e : TypeId) (kd : IntKind) (ht : P.underlying t = some (.map kt e)) (hk : P.underlying kt = some (.int kd))
    (hz : (zeroValue e).run P w = .ok (secV zs) w) (r : Nat) (f : Int → Option (List UInt8)) (n : Int) (hx : a.eval x = .map (some r)) (hkk : a.eval k = .int .i64 n) (hm : MapIs w r f)
    (h : wpList P ops Q rest (a.put o.dst (lookV ok (f n))) w) : wpList P ops Q (o :: rest) a w :=
  wpList_val (s := Instr.lookup t (a.eval x) (a.eval k) ok) hg (by unfold execOp; rw [hop]) (by rw [hx, hkk]; exact run_lookup ht hk hz hm n ok) h

/-- a map's entry written -/
theorem wpList_update (hg : o.guard = none) (t : TypeId) (x k v : Operand) (hop : o.op = .mapUpdate t x k v) (kt e : TypeId) (kd : IntKind) (ht : P.underlying t = some (.map kt e)) (hk : P.underlying kt = some (.int kd))
    (r : Nat) (f : Int → Option (List UInt8)) (n : Int) (l : List UInt8) (hl : l.length = 512) (hx : a.eval x = .map (some r)) (hkk : a.eval k = .int .i64 n) (hv : a.eval v = secV l) (hm : MapIs w r f)
    (h : ∀ w1, MapIs w1 r (put f n l) → Mod (· = r) w w1 → wpList P ops Q rest (a.put o.dst undef) w1) : wpList P ops Q (o :: rest) a w := by
  obtain ⟨ob, hr, hmap⟩ := run_mapUpdate ht hk hm n l hl
  exact wpList_unit (s := Instr.mapUpdate t (a.eval x) (a.eval k) (a.eval v)) hg (by unfold execOp; rw [hop]) (by rw [hx, hkk, hv]; exact hr) (h _ hmap (mod_setB w r ob))

/-- 'clear' of a map -/
theorem wpList_clear (hg : o.guard = none) (x : Operand) (t : TypeId) (hop : o.op = .call { callee := .builtin .clear, args := #[x], argTypes := #[t] }) (kt e : TypeId) (ht : P.underlying t = some (.map kt e))
    (r : Nat) (f : Int → Option (List UInt8)) (hx : a.eval x = .map (some r)) (hm : MapIs w r f)
    (h : ∀ w1, MapIs w1 r (fun _ => none) → Mod (· = r) w w1 → wpList P ops Q rest (a.put o.dst (.tuple #[])) w1) : wpList P ops Q (o :: rest) a w := by
  obtain ⟨ob, hr, hmap⟩ := run_clear ht o.type hm
  refine wpList_val (s := Builtin.clear_ #[t] o.type #[a.eval x]) hg ?_ (by rw [hx]; exact hr) (h _ hmap (mod_setB w r ob))
  obtain ⟨_, op, _, _, _, _⟩ := o
  cases hop
  rw [BigFrame.execOp_builtin, BigFrame.builtin_clear, List.map_toArray, List.map_cons, List.map_nil]

/-- a new map -/
theorem wpList_newmap (hg : o.guard = none) (t : TypeId) (hop : o.op = .makeMap t none)
    (h : ∀ w1 g, MapIs w1 g (fun _ => none) → Mod none_ w w1 → w.heap.size ≤ g → wpList P ops Q rest (a.put o.dst (.map (some g))) w1) : wpList P ops Q (o :: rest) a w :=
  wpList_val (s := Instr.makeMap t none) hg (by unfold execOp; rw [hop]; rfl) (run_makeMap t w) (h _ _ (MapIs.new w) ((Mod.refl _ _).alloc _) (Nat.le_refl _))

/-- a map gone through: the iterator made -/
theorem wpList_range (hg : o.guard = none) (t : TypeId) (x : Operand) (hop : o.op = .range t x) (kt e : TypeId) (ht : P.underlying t = some (.map kt e)) {m : Nat} {ts : List Tri} {clk : Nat} {f : Int → Option (List UInt8)} (hx : a.eval x = .map (some m))
    (hb : w.heap[m]? = some (.map (ts.map ent).toArray clk)) (he : Ents ts clk f)
    (h : ∀ w1 r, It w1 r m ts clk [] → Mod none_ w w1 → w.heap.size ≤ r → wpList P ops Q rest (a.put o.dst (.pointer (some ⟨r, 0, none⟩))) w1) : wpList P ops Q (o :: rest) a w := by
  obtain ⟨h1, h2⟩ := run_range (P := P) ht hb he.lt he.stamps
  exact wpList_val (s := Instr.range t (a.eval x)) hg (by unfold execOp; rw [hop]) (by rw [hx]; exact h1) (h _ _ h2 ((Mod.refl _ _).alloc _) (Nat.le_refl _))

/-- .. the next entry, if there is one -/
theorem wpList_next (hg : o.guard = none) (it : Operand) (hop : o.op = .next it false) {r m : Nat} {ts : List Tri} {clk : Nat} {seen : List Nat} (hit : a.eval it = .pointer (some ⟨r, 0, none⟩)) (hI : It w r m ts clk seen)
    (hDone : (∀ t ∈ ts, t.2.2 ∈ seen) → wpList P ops Q rest (a.put o.dst (.tuple #[.bool false])) w)
    (hMore : ∀ t w1, t ∈ ts → t.2.2 ∉ seen → It w1 r m ts clk (seen ++ [t.2.2]) → Mod (· = r) w w1 → wpList P ops Q rest (a.put o.dst (.tuple #[.bool true, .int .i64 t.1, secV t.2.1])) w1) : wpList P ops Q (o :: rest) a w := by
  rcases run_next (P := P) hI o.type with ⟨hall, hr⟩ | ⟨t, w1, ob, ht, hns, hw1, hr, hI'⟩
  · exact wpList_val (s := Instr.next (a.eval it) false o.type) hg (by unfold execOp; rw [hop]) (by rw [hit]; exact hr) (hDone hall)
  · refine wpList_val (s := Instr.next (a.eval it) false o.type) hg (by unfold execOp; rw [hop]) (by rw [hit]; exact hr) (hMore t _ ht hns hI' ?_)
    rcases hw1 with rfl | rfl
    · exact mod_setB _ _ _
    · exact Mod.setB (S := (· = r)) ((Mod.refl _ w).drew) (.inl rfl) _

/-- .. what it is -/
theorem wpList_entry (hg : o.guard = none) (it : Operand) (hop : o.op = .entry it) {r m : Nat} {ts : List Tri} {clk : Nat} {seen : List Nat} {x : Tri} (hit : a.eval it = .pointer (some ⟨r, 0, none⟩)) (hx : x ∈ ts) (hI : It w r m ts clk (seen ++ [x.2.2]))
    (h : wpList P ops Q rest (a.put o.dst (.tuple #[.int .i64 x.1, secV x.2.1])) w) : wpList P ops Q (o :: rest) a w :=
  wpList_val (s := Instr.entry (a.eval it)) hg (by unfold execOp; rw [hop]) (by rw [hit]; exact run_entry hx hI) h

theorem wpStill_val {Q : Act → Prop} {s : Sem Value} {v : Value} (hg : o.guard = none) (he : execOp a.eval o = (do pure (Next.value (← s)))) (hs : s.run P w = .ok v w)
    (h : wpStill P ops w Q rest (a.put o.dst v)) : wpStill P ops w Q (o :: rest) a := by
  refine wpStill_step fun K hK => ?_
  have hw : Region.wanted o (yielded ops a.tmps) = true := by simp [Region.wanted, hg]
  rw [if_pos hw]
  unfold Oper.still
  rw [he, Sem.run_bind, hs]
  exact ⟨rfl, hK _ h⟩

theorem run_loadArr {e : TypeId} (g off : Nat) (xs : List Value) (d : TypeDesc) (hu : P.underlying e = some d) (hd : (match d with | .struct _ | .array _ _ => true | _ => false) = true)
    (hc : ∀ j u, xs[j]? = some u → w.cell? ⟨g, off + j, none⟩ = some u) (hi : (P.info? e).map (·.size) = some xs.length) : (Instr.loadAt e (.pointer (some ⟨g, off, none⟩))).run P w = .ok (.agg xs.toArray) w := by
  have hl : (loadCells ⟨g, off, none⟩ xs.length).run P w = .ok xs.toArray w :=
    run_loadCells_list (P := P) w ⟨g, off, none⟩ xs (fun j v hv => by
      rw [Addr.add_lit]
      exact hc j v hv)
  cases hq : P.info? e with
  | none => simp [hq] at hi
  | some i =>
    have hs : i.size = xs.length := by simpa [hq] using hi
    have hagg : (isAgg e).run P w = .ok true w := by
      unfold isAgg
      rw [Sem.run_bind, run_underlying hu w]
      cases d <;> simp_all
    simp [Instr.loadAt, Instr.sureAddr, loadVar, hagg, sizeOf, typeInfo, hq, hs, hl]

/-- a whole array or struct loaded -/
theorem wpList_load (hg : o.guard = none) (e : TypeId) (p : Operand) (hop : o.op = .load e p) (g off : Nat) (hp : a.eval p = .pointer (some ⟨g, off, none⟩)) (xs : List Value) (d : TypeDesc) (hu : P.underlying e = some d) (hd : (match d with | .struct _ | .array _ _ => true | _ => false) = true)
    (hc : ∀ j u, xs[j]? = some u → w.cell? ⟨g, off + j, none⟩ = some u) (hi : (P.info? e).map (·.size) = some xs.length)
    (h : wpList P ops Q rest (a.put o.dst (.agg xs.toArray)) w) : wpList P ops Q (o :: rest) a w :=
  wpList_val (s := Instr.loadAt e (a.eval p)) (v := .agg xs.toArray) hg (by unfold execOp; rw [hop]) (by rw [hp]; exact run_loadArr g off xs d hu hd hc hi) h

/-- a whole array loaded, in a region that draws its order -/
theorem wpStill_load {Q : Act → Prop} (hg : o.guard = none) (e : TypeId) (p : Operand) (hop : o.op = .load e p) (g off : Nat) (hp : a.eval p = .pointer (some ⟨g, off, none⟩)) (xs : List Value) (d : TypeDesc) (hu : P.underlying e = some d) (hd : (match d with | .struct _ | .array _ _ => true | _ => false) = true)
    (hc : ∀ j u, xs[j]? = some u → w.cell? ⟨g, off + j, none⟩ = some u) (hi : (P.info? e).map (·.size) = some xs.length)
    (h : wpStill P ops w Q rest (a.put o.dst (.agg xs.toArray))) : wpStill P ops w Q (o :: rest) a :=
  wpStill_val (s := Instr.loadAt e (a.eval p)) hg (by unfold execOp; rw [hop]) (by rw [hp]; exact run_loadArr g off xs d hu hd hc hi) h

theorem wpStill_arr {Q : Act → Prop} (hg : o.guard = none) (e : TypeId) (x : Operand) (hop : o.op = .sliceToArrayPointer e x) (A : Option Addr) (len cap n : Nat) (ee : TypeId) (hx : a.eval x = .slice A len cap) (hu : P.underlying e = some (.array n ee)) (hn : n ≤ len)
    (h : wpStill P ops w Q rest (a.put o.dst (.pointer A))) : wpStill P ops w Q (o :: rest) a :=
  wpStill_val (s := Instr.arrayAt e (a.eval x)) hg (by unfold execOp; rw [hop]) (by rw [hx]; simp [Instr.arrayAt, run_underlying hu, Nat.not_lt.2 hn]) h

/-! ### a region that draws its order, with a condition S on the world: what yields under S is taken first; the rest comes in one order -/
theorem held_take {md : Region.Mode} {S : World → Prop} {i : Nat} {oi : Oper} {s : Sem Value} {v : Value} {fuel : Nat} {listed : Array Bool} (hi : ops[i]? = some oi)
    (hs : Region.noSelect ops = true) (hf : Region.free md ops listed i = true) (hr : (Region.ready md ops listed).contains i = true)
    (hQ : ∀ c a w, Q (.panic c) (a.put oi.dst v) w → Q (.panic c) a w) (hg : oi.guard = none) (he : execOp a.eval oi = (do pure (Next.value (← s)))) (hrun : ∀ W, S W → s.run P W = .ok v W) (hS : S w)
    (h : wpAnyH P md ops Q S fuel (listed.setIfInBounds i true) (a.put oi.dst v) w) : wpAnyH P md ops Q S (fuel + 1) listed a w :=
  wpAnyH_take hi hs hf hr hQ (.inl ⟨by simp [Region.wanted, hg], fun W hW => by rw [he, Sem.run_bind, hrun W hW]; rfl⟩) hS h

theorem held_one {md : Region.Mode} {S : World → Prop} {i : Nat} {oi : Oper} {fuel : Nat} {listed : Array Bool} {n : Next} {w1 : World} {v : Value} (hi : ops[i]? = some oi) (hr : Region.ready md ops listed = [i]) (hg : oi.guard = none)
    (hrun : (execOp a.eval oi).run P w = .ok n w1) (hn : n = .value v ∨ (n = .skip ∧ v = undef)) (hS : S w1)
    (h : wpAnyH P md ops Q S fuel (listed.setIfInBounds i true) (a.put oi.dst v) w1) : wpAnyH P md ops Q S (fuel + 1) listed a w := by
  refine wpAnyH_all hr (by simp) fun j hj => ?_
  obtain rfl : j = i := by simpa using hj
  unfold wpOp
  rw [hi]
  simp only [Region.wanted, hg, if_true]
  refine .inl ?_
  unfold Oper.wp
  rw [hrun]
  rcases hn with rfl | ⟨rfl, rfl⟩ <;> exact ⟨hS, h⟩

theorem run_allocArr {e : TypeId} {zc : Array Value} (hz : (zeroValue e).run P w = .ok (.agg zc) w) : (Instr.alloc e true (.tuple #[])).run P w = .ok (.pointer (some ⟨w.heap.size, 0, none⟩)) (w.alloc (.cells zc e)) := by
  simp [Instr.alloc, hz, newVar, newRow, newObj, Sem.run, Value.cells]

theorem held_alloc {md : Region.Mode} {S : World → Prop} {i : Nat} {oi : Oper} {fuel : Nat} {listed : Array Bool} (hi : ops[i]? = some oi) (hr : Region.ready md ops listed = [i]) (hg : oi.guard = none) (e : TypeId) (hop : oi.op = .alloc e)
    (zc : Array Value) (hz : (zeroValue e).run P w = .ok (.agg zc) w)
    (h : ∀ w1 g, w1.heap[g]? = some (.cells zc e (0, 0)) → Mod none_ w w1 → w.heap.size ≤ g → S w1 ∧ wpAnyH P md ops Q S fuel (listed.setIfInBounds i true) (a.put oi.dst (.pointer (some ⟨g, 0, none⟩))) w1) :
    wpAnyH P md ops Q S (fuel + 1) listed a w := by
  obtain ⟨h1, h2⟩ := h _ _ (heap_alloc_new w _) ((Mod.refl _ _).alloc _) (Nat.le_refl _)
  refine held_one (n := .value (.pointer (some ⟨w.heap.size, 0, none⟩))) hi hr hg ?_ (.inl rfl) h1 h2
  unfold execOp
  rw [hop]
  simp only [Sem.run_bind, run_allocArr hz]
  rfl

theorem run_storeArr {e : TypeId} {g : Nat} {xs : List Value} {cur : Array Value} {t : TypeId} (hb : w.heap[g]? = some (.cells cur t (0, 0))) (hsz : cur.size = xs.length) (hi : (P.info? e).map (·.size) = some xs.length) (h1 : ∀ u ∈ xs, u.oneCell' = true) :
    (Instr.storeAt e (.pointer (some ⟨g, 0, none⟩)) (.agg xs.toArray)).run P w = .ok () (w.setRow g xs.toArray) := by
  have hr := run_storeCells_at P g 0 t xs 0 cur w hb (by omega) h1
  have e1 : (cur.toList.take (0 + 0) ++ xs ++ cur.toList.drop (0 + 0 + xs.length)).toArray = xs.toArray := by
    have : cur.toList.drop (0 + 0 + xs.length) = [] := List.drop_eq_nil_of_le (by simp; omega)
    rw [this]
    simp
  rw [e1] at hr
  cases hq : P.info? e with
  | none => simp [hq] at hi
  | some i =>
    have hs : i.size = xs.length := by simpa [hq] using hi
    simp [Instr.storeAt, Instr.sureAddr, storeVar, sizeOf, typeInfo, hq, hs, Value.cells, hr]

theorem held_store {md : Region.Mode} {S : World → Prop} {i : Nat} {oi : Oper} {fuel : Nat} {listed : Array Bool} (hi : ops[i]? = some oi) (hr : Region.ready md ops listed = [i]) (hg : oi.guard = none) (e : TypeId) (p x : Operand) (hop : oi.op = .store e p x)
    (g : Nat) (hp : a.eval p = .pointer (some ⟨g, 0, none⟩)) (xs : List Value) (hx : a.eval x = .agg xs.toArray)
    (cur : Array Value) (t : TypeId) (hb : w.heap[g]? = some (.cells cur t (0, 0))) (hsz : cur.size = xs.length) (hin : (P.info? e).map (·.size) = some xs.length) (h1 : ∀ u ∈ xs, u.oneCell' = true)
    (h : ∀ w1, w1.heap[g]? = some (.cells xs.toArray t (0, 0)) → Mod (· = g) w w1 → S w1 ∧ wpAnyH P md ops Q S fuel (listed.setIfInBounds i true) (a.put oi.dst undef) w1) :
    wpAnyH P md ops Q S (fuel + 1) listed a w := by
  obtain ⟨h2, h3⟩ := h _ (setRow_heap w g cur _ t _ hb) ⟨rfl, rfl, rfl, by simp, fun k _ hk => setRow_other w g k _ hk⟩
  refine held_one (n := .skip) hi hr hg ?_ (.inr ⟨rfl, rfl⟩) h2 h3
  unfold execOp
  rw [hop]
  simp only [hp, hx, Sem.run_bind, run_storeArr hb hsz hin h1]
  rfl

/-- what is asked of a slice type t of elements e -/
structure Elt (P : Program) (t e : TypeId) (sz bytes : Nat) : Prop where
  under : P.underlying t = some (.slice e)
  info : ∃ i z, P.info? e = some i ∧ i.zero = some z ∧ i.size = sz ∧ i.bytes = bytes ∧ z.cells.size = sz
  pos : 0 < sz
theorem Elt.mk' {P : Program} {t e : TypeId} {sz bytes : Nat} (z : Value) (h : P.underlying t = some (.slice e)) (hi : (P.info? e).map (fun i => (i.zero, i.size, i.bytes)) = some (some z, sz, bytes)) (hz : z.cells.size = sz) (hp : 0 < sz) : Elt P t e sz bytes := by
  obtain ⟨i, h1, h2, h3, h4⟩ := info_parts hi
  exact ⟨h, ⟨i, z, h1, h2, h3, h4, hz⟩, hp⟩

theorem run_append_nil_ {t e : TypeId} {sz bytes : Nat} (E : Elt P t e sz bytes) (ty : TypeId) {D : Nat → Prop} {v : Value} {n : Nat} {xs : List Value} (hown : OwnS w D e sz v n xs) (c : Nat) :
    (Builtin.append_ #[t, t] ty #[v, .slice none 0 c]).run P w = .ok v w := by
  obtain ⟨i, z, hi, _, hs, _, _⟩ := E.info
  rcases hown.row.2 with ⟨rfl, rfl⟩ | ⟨g, cap, cur, rfl, _, _, hnc, _⟩
  · simp [Builtin.append_, run_underlying E.under, sizeOf, typeInfo, hi, Builtin.lenOf, Builtin.firstCells]
  · simp [Builtin.append_, run_underlying E.under, sizeOf, typeInfo, hi, Builtin.lenOf, Builtin.firstCells, hnc, storeCells]

/-- append(s, x...) onto a slice of the call's own; x: whatever reads -/
theorem run_append {t e : TypeId} {sz bytes : Nat} (E : Elt P t e sz bytes) (ty : TypeId) {D Dx : Nat → Prop} {v : Value} {n : Nat} {xs : List Value} (hown : OwnS w D e sz v n xs) {x : Value} {m : Nat} {news : List Value} (hx : Rd w Dx sz x m news)
    (h1 : ∀ u ∈ news, u.oneCell' = true) (hb : (n + m) * bytes ≤ 140737488355328) (hm : n + m ≤ 140737488355328) (hD : ∀ r, w.heap.size ≤ r → D r) :
    ∃ v' w', (Builtin.append_ #[t, t] ty #[v, x]).run P w = .ok v' w' ∧ OwnS w' D e sz v' (n + m) (xs ++ news) ∧ Mod D w w' := by
  obtain ⟨A, c, rfl, hmc, hlen, hcells⟩ := hx
  rcases Nat.eq_zero_or_pos m with h0 | h0
  · subst h0
    have hn : news = [] := List.eq_nil_of_length_eq_zero (by simpa using hlen)
    subst hn
    rcases A with _ | ad
    · exact ⟨v, w, run_append_nil_ E ty hown c, by simpa using hown, Mod.refl _ _⟩
    · obtain ⟨i, z, hi, hz, hs, hby, hzs⟩ := E.info
      obtain ⟨v', w', hr, h2, h3, _, h5⟩ := run_append_own_at (P := P) w 0 t ty e i z sz bytes E.under hi hz hs hby hzs E.pos v n xs hown.row ad 0 c [] (by simp) (by simp) (by simp) (by simp only [maxLen]; omega) hb (Nat.zero_le _)
      refine ⟨v', w', hr, ⟨h2, ?_⟩, (Mod.refl _ _).grown h3 (fun k hk => .inl (hown.dom k hk))⟩
      rcases h5 with e | e <;> rw [e]
      · exact hown.dom
      · intro g hg; injection hg with hg; subst hg; exact hD _ (Nat.le_refl _)
  · obtain ⟨b, o, rfl, _, _, hc⟩ := hcells h0
    obtain ⟨i, z, hi, hz, hs, hby, hzs⟩ := E.info
    obtain ⟨v', w', hr, h2, h3, _, h5⟩ := run_append_own_at (P := P) w 0 t ty e i z sz bytes E.under hi hz hs hby hzs E.pos v n xs hown.row ⟨b, o, none⟩ m c news hlen (fun j u hu => by rw [Addr.add_lit]; exact hc j u hu) h1 (by simp only [maxLen]; omega) hb (Nat.zero_le _)
    refine ⟨v', w', hr, ⟨h2, ?_⟩, (Mod.refl _ _).grown h3 (fun k hk => .inl (hown.dom k hk))⟩
    rcases h5 with e | e <;> rw [e]
    · exact hown.dom
    · intro g hg; injection hg with hg; subst hg; exact hD _ (Nat.le_refl _)

theorem wpList_append (hg : o.guard = none) (s x : Operand) (t : TypeId) (hop : o.op = .call { callee := .builtin .append, args := #[s, x], argTypes := #[t, t] }) {e : TypeId} {sz bytes : Nat} (E : Elt P t e sz bytes)
    {D Dx : Nat → Prop} {v : Value} {n : Nat} {xs : List Value} (hs : a.eval s = v) (hown : OwnS w D e sz v n xs) {xv : Value} {m : Nat} {news : List Value} (hxv : a.eval x = xv) (hx : Rd w Dx sz xv m news)
    (h1 : ∀ u ∈ news, u.oneCell' = true) (hb : (n + m) * bytes ≤ 140737488355328) (hm : n + m ≤ 140737488355328) (hD : ∀ r, w.heap.size ≤ r → D r)
    (h : ∀ v' w', OwnS w' D e sz v' (n + m) (xs ++ news) → Mod D w w' → wpList P ops Q rest (a.put o.dst v') w') : wpList P ops Q (o :: rest) a w := by
  obtain ⟨v', w', hr, h2, h3⟩ := run_append E o.type hown hx h1 hb hm hD
  refine wpList_val (s := Builtin.append_ #[t, t] o.type #[a.eval s, a.eval x]) hg ?_ (by rw [hs, hxv]; exact hr) (h _ _ h2 h3)
  obtain ⟨_, op, _, _, _, _⟩ := o
  cases hop
  rw [BigFrame.execOp_builtin, BigFrame.builtin_append, List.map_toArray, List.map_cons, List.map_cons, List.map_nil]

/-- T{} of a slice type: nothing in it -/
theorem wpList_empty (hg : o.guard = none) (t : TypeId) (hop : o.op = .buildSlice t 0 #[]) {e : TypeId} {sz bytes : Nat} (E : Elt P t e sz bytes) {D : Nat → Prop} (hD : ∀ r, w.heap.size ≤ r → D r)
    (h : ∀ v w1, OwnS w1 D e sz v 0 [] → Mod none_ w w1 → wpList P ops Q rest (a.put o.dst v) w1) : wpList P ops Q (o :: rest) a w := by
  obtain ⟨i, z, hi, hz, hs, hby, hzs⟩ := E.info
  refine wpList_val (s := Instr.buildSlice t 0 #[]) (v := .slice (some ⟨w.heap.size, 0, none⟩) 0 0) (w1 := w.alloc (.cells #[] e)) hg (by obtain ⟨_, op, _, _, _, _⟩ := o; cases hop; simp [execOp]) ?_
    (h _ _ (OwnS.made (cs := []) (heap_alloc_new w _) (hD _ (Nat.le_refl _)) 0 (Nat.zero_le _) (by simp)) ((Mod.refl _ _).alloc _))
  simp [Instr.buildSlice, run_underlying E.under, sizeOf, typeInfo, hi, Instr.fill, newRow, newObj, Sem.run]
  rw [show Array.range 0 = #[] from rfl]
  simp

/-- make([]T, n, cap), T of one cell -/
theorem wpList_make (hg : o.guard = none) (t : TypeId) (l c : Operand) (hop : o.op = .makeSlice t l c) (e : TypeId) (z : Value) (bytes : Nat) (ht : P.underlying t = some (.slice e)) (hi : (P.info? e).map (fun i => (i.zero, i.size, i.bytes)) = some (some z, 1, bytes))
    (hz : z.cells = #[z]) (kl kc : IntKind) (n cap : Nat) (hl : a.eval l = .int kl (n : Int)) (hc : a.eval c = .int kc (cap : Int)) (hn : n ≤ cap) (hb : bytes * cap ≤ 281474976710656) (hm : cap ≤ 281474976710656)
    (h : ∀ w1 g, w1.heap[g]? = some (.cells (List.replicate cap z).toArray e (0, 0)) → Mod none_ w w1 → w.heap.size ≤ g → wpList P ops Q rest (a.put o.dst (.slice (some ⟨g, 0, none⟩) n cap)) w1) :
    wpList P ops Q (o :: rest) a w := by
  obtain ⟨i, h1, h2, h3, h4⟩ := info_parts hi
  have hb' : (bytes : Int) * (cap : Int) ≤ 281474976710656 := by
    have : ((bytes * cap : Nat) : Int) ≤ 281474976710656 := by omega
    rwa [Int.natCast_mul] at this
  have hr := run_make (P := P) w t e i z ht h1 h2 kl kc (n : Int) (cap : Int) (by omega) (by omega) (by rw [h4]; exact hb') (by omega)
  simp only [Int.toNat_natCast, h3, Nat.mul_one] at hr
  have e1 : madeCells z.cells cap = (List.replicate cap z).toArray := by
    rw [hz]
    apply Array.ext'
    rw [toList_madeCells_one]
  rw [e1] at hr
  exact wpList_val (s := Instr.makeSlice t (a.eval l) (a.eval c)) hg (by unfold execOp; rw [hop]) (by rw [hl, hc]; exact hr) (h _ _ (heap_alloc_new w _) ((Mod.refl _ _).alloc _) (Nat.le_refl _))

end
end Go.SM
