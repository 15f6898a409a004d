/-
  MarkNumbers: steps that are written out.
-/
import Derived.Test.YthkbnhoebijdoaaMarkV
namespace Go.Proofs.Ythkbnhoebijdoaa
open Go Go.RowKit Go.SM

theorem lt8 {p : Nat → Prop} (h0 : p 0) (h1 : p 1) (h2 : p 2) (h3 : p 3) (h4 : p 4) (h5 : p 5) (h6 : p 6) (h7 : p 7) : ∀ j, j < 8 → p j := by
  intro j hj
  match j, hj with
  | 0, _ => exact h0
  | 1, _ => exact h1
  | 2, _ => exact h2
  | 3, _ => exact h3
  | 4, _ => exact h4
  | 5, _ => exact h5
  | 6, _ => exact h6
  | 7, _ => exact h7
  | n + 8, h => exact absurd h (by omega)

theorem two_new (w : World) (x : Obj) (c : Array Value) (t : TypeId) : ((w.alloc x).alloc (.cells c t)).heap[w.heap.size + 1]? = some (.cells c t (0, 0)) := by
  have h := heap_alloc_new (w.alloc x) (.cells c t)
  rwa [show (w.alloc x).heap.size = w.heap.size + 1 by simp] at h

theorem rd_fate {W : World} {gf : Nat} {tf : TypeId} {z : Int} (hf : W.heap[gf]? = some (.cells #[.int .i64 z] tf (0, 0))) : Rd W (Old W) 1 (.slice (some ⟨gf, 0, none⟩) 1 1) 1 (ints [z]) :=
  ⟨_, _, rfl, Nat.le_refl _, rfl, fun _ => ⟨gf, 0, rfl, blk_lt hf, blk_lt hf, fun i u hu => block_cells (xs := [.int .i64 z]) hf i u hu⟩⟩

def stepOf (op n : Int) (m : Mst) (ks : List Int) : DoM := ⟨op, n, m, ks, 0⟩
theorem stepOf_ok {op n : Int} {m : Mst} {ks : List Int} (h : I64 op ∧ I64 n) (hm : I64 m.seq ∧ I64 m.turn ∧ I64 m.oldest ∧ I64 m.mark) (hk : ∀ k ∈ ks, I64 k) : (stepOf op n m ks).ok := ⟨h.1, h.2, hm, hk⟩
theorem i64_small {n : Int} (h : 0 ≤ n ∧ n ≤ 2305843009213693953) : I64 n := by unfold I64; omega
theorem zero_ok : I64 zeroM.seq ∧ I64 zeroM.turn ∧ I64 zeroM.oldest ∧ I64 zeroM.mark := ⟨i64_small (by decide), i64_small (by decide), i64_small (by decide), i64_small (by decide)⟩
theorem good_ok : I64 goodM.seq ∧ I64 goodM.turn ∧ I64 goodM.oldest ∧ I64 goodM.mark := ⟨i64_small (by decide), i64_small (by decide), i64_small (by decide), i64_small (by decide)⟩

theorem lives_lit {wr W : World} {g n : Nat} {sec : Int} (xs : List DoM) (hm : Mod none_ wr W) (hg : g < W.heap.size) (hx : ∀ i (h : i < xs.length), DmAt W (Old W) g (0 + i * 8) xs[i]) (hok : ∀ x ∈ xs, x.ok) (hn : xs.length = n) :
    Calls Try.prog 6 #[.int .i64 sec, .slice (some ⟨g, 0, none⟩) n n] W fun e w' => e = .returned (.bool true) ∧ Mod none_ wr w' := by
  subst hn
  refine (lives_walk W (Old W) sec _ xs ⟨_, _, rfl, Nat.le_refl _, fun _ => ⟨g, 0, rfl, hg, hg, hx⟩, hok⟩ (fun _ e => e)).mono fun e w' ⟨he, h⟩ => ⟨he, hm.trans' h⟩

theorem livesA {wr W : World} {g gf : Nat} {t tf : TypeId} {k : Nat} (hm : Mod none_ wr W) (hf : W.heap[gf]? = some (.cells #[.int .i64 1] tf (0, 0)))
    (hb : W.heap[g]? = some (.cells (dmL (stepOf 1 k zeroM []) (.slice none 0 0) ++ (dmL (stepOf 0 0 zeroM []) (.slice none 0 0) ++ (dmL (stepOf 2 0 zeroM [1]) (.slice (some ⟨gf, 0, none⟩) 1 1) ++ dmL (stepOf 2 0 zeroM []) (.slice none 0 0)))).toArray t (0, 0))) (hk : k ≤ 60) :
    Calls Try.prog 6 #[.int .i64 10, .slice (some ⟨g, 0, none⟩) 4 4] W fun e w' => e = .returned (.bool true) ∧ Mod none_ wr w' := by
  refine lives_lit [stepOf 1 k zeroM [], stepOf 0 0 zeroM [], stepOf 2 0 zeroM [1], stepOf 2 0 zeroM []] hm (blk_lt hb) ?_ ?_ rfl
  · intro i hi
    match i, hi with
    | 0, _ => exact DmAt.of_row hb (lt8 rfl rfl rfl rfl rfl rfl rfl rfl) (Rd.nil_ _ _ _)
    | 1, _ => exact DmAt.of_row hb (lt8 rfl rfl rfl rfl rfl rfl rfl rfl) (Rd.nil_ _ _ _)
    | 2, _ => exact DmAt.of_row hb (lt8 rfl rfl rfl rfl rfl rfl rfl rfl) (rd_fate hf)
    | 3, _ => exact DmAt.of_row hb (lt8 rfl rfl rfl rfl rfl rfl rfl rfl) (Rd.nil_ _ _ _)
    | n + 4, h => exact absurd h (by simp)
  · intro x hx
    simp only [List.mem_cons, List.not_mem_nil, or_false] at hx
    rcases hx with rfl | rfl | rfl | rfl <;> exact stepOf_ok ⟨i64_small (by omega), i64_small (by omega)⟩ zero_ok (by intro k hk; simp at hk <;> (subst hk; exact i64_small (by omega)))

theorem livesB {wr W : World} {g gf : Nat} {t tf : TypeId} {k : Nat} (hm : Mod none_ wr W) (hf : W.heap[gf]? = some (.cells #[.int .i64 0] tf (0, 0)))
    (hb : W.heap[g]? = some (.cells (dmL (stepOf 0 0 zeroM []) (.slice none 0 0) ++ (dmL (stepOf 1 k zeroM []) (.slice none 0 0) ++ (dmL (stepOf 0 0 zeroM []) (.slice none 0 0) ++ dmL (stepOf 2 0 zeroM [0]) (.slice (some ⟨gf, 0, none⟩) 1 1)))).toArray t (0, 0))) (hk : k ≤ 60) :
    Calls Try.prog 6 #[.int .i64 10, .slice (some ⟨g, 0, none⟩) 4 4] W fun e w' => e = .returned (.bool true) ∧ Mod none_ wr w' := by
  refine lives_lit [stepOf 0 0 zeroM [], stepOf 1 k zeroM [], stepOf 0 0 zeroM [], stepOf 2 0 zeroM [0]] hm (blk_lt hb) ?_ ?_ rfl
  · intro i hi
    match i, hi with
    | 0, _ => exact DmAt.of_row hb (lt8 rfl rfl rfl rfl rfl rfl rfl rfl) (Rd.nil_ _ _ _)
    | 1, _ => exact DmAt.of_row hb (lt8 rfl rfl rfl rfl rfl rfl rfl rfl) (Rd.nil_ _ _ _)
    | 2, _ => exact DmAt.of_row hb (lt8 rfl rfl rfl rfl rfl rfl rfl rfl) (Rd.nil_ _ _ _)
    | 3, _ => exact DmAt.of_row hb (lt8 rfl rfl rfl rfl rfl rfl rfl rfl) (rd_fate hf)
    | n + 4, h => exact absurd h (by simp)
  · intro x hx
    simp only [List.mem_cons, List.not_mem_nil, or_false] at hx
    rcases hx with rfl | rfl | rfl | rfl <;> exact stepOf_ok ⟨i64_small (by omega), i64_small (by omega)⟩ zero_ok (by intro k hk; simp at hk <;> (subst hk; exact i64_small (by omega)))

theorem livesC {wr W : World} {g : Nat} {t : TypeId} {m : Mst} (hm : Mod none_ wr W) (hmm : I64 m.seq ∧ I64 m.turn ∧ I64 m.oldest ∧ I64 m.mark)
    (hb : W.heap[g]? = some (.cells (dmL (stepOf 0 0 zeroM []) (.slice none 0 0) ++ (dmL (stepOf 7 0 m []) (.slice none 0 0) ++ dmL (stepOf 7 0 goodM []) (.slice none 0 0))).toArray t (0, 0))) :
    Calls Try.prog 6 #[.int .i64 10, .slice (some ⟨g, 0, none⟩) 3 3] W fun e w' => e = .returned (.bool true) ∧ Mod none_ wr w' := by
  refine lives_lit [stepOf 0 0 zeroM [], stepOf 7 0 m [], stepOf 7 0 goodM []] hm (blk_lt hb) ?_ ?_ rfl
  · intro i hi
    match i, hi with
    | 0, _ => exact DmAt.of_row hb (lt8 rfl rfl rfl rfl rfl rfl rfl rfl) (Rd.nil_ _ _ _)
    | 1, _ => exact DmAt.of_row hb (lt8 rfl rfl rfl rfl rfl rfl rfl rfl) (Rd.nil_ _ _ _)
    | 2, _ => exact DmAt.of_row hb (lt8 rfl rfl rfl rfl rfl rfl rfl rfl) (Rd.nil_ _ _ _)
    | n + 3, h => exact absurd h (by simp)
  · intro x hx
    simp only [List.mem_cons, List.not_mem_nil, or_false] at hx
    rcases hx with rfl | rfl | rfl
    · exact stepOf_ok ⟨i64_small (by omega), i64_small (by omega)⟩ zero_ok (by simp)
    · exact stepOf_ok ⟨i64_small (by omega), i64_small (by omega)⟩ hmm (by simp)
    · exact stepOf_ok ⟨i64_small (by omega), i64_small (by omega)⟩ good_ok (by simp)

theorem bad_ok : ∀ i (h : i < badL.length), I64 badL[i].seq ∧ I64 badL[i].turn ∧ I64 badL[i].oldest ∧ I64 badL[i].mark := by
  unfold I64
  decide

def badC : Array Value := (badL.flatMap fun m => [Value.int .i64 m.seq, .int .i64 m.turn, .int .i64 m.oldest, .int .i64 m.mark]).toArray
theorem new_lit {w0 w4 : World} {c : Array Value} {t : TypeId} (h : Mod none_ w0 w4) (hc : c = badC) :
    Calls Try.prog 16 #[.int .i64 40] (w4.alloc (.cells c t)) fun e w' => ∃ b ms mo, e = .returned (.pointer (some ⟨b, 0, none⟩)) ∧ Live w0 w' b ms mo (newS 40) ∧ Mod none_ w4 w' ∧ w'.heap[w4.heap.size]? = some (.cells badC t (0, 0)) ∧ ∀ g, g ≤ w4.heap.size → ¬ dkOwn b ms mo g := by
  subst hc
  have ha := (Mod.refl none_ w4).alloc (.cells badC t)
  have hb := heap_alloc_new w4 (.cells badC t)
  exact (new_yes 40 _ ⟨by omega, by omega⟩).mono fun e w' ⟨b, ms, mo, he, hd, hm', h1, h2, h3⟩ =>
    ⟨b, ms, mo, he, ⟨hd, (h.trans' ha).trans' hm', by have := (h.trans' ha).size; omega⟩, ha.trans' hm', hm'.get hb (fun e => e), fun g hg e => by have := blk_lt hb; rcases e with e | e | e <;> omega⟩

theorem bad_cells {g : Nat} {t : TypeId} {i : Nat} (hi : i < 8) :
    ∃ m : Mst, m.may = false ∧ (I64 m.seq ∧ I64 m.turn ∧ I64 m.oldest ∧ I64 m.mark) ∧ ∀ W : World, W.heap[g]? = some (.cells badC t (0, 0)) → W.cell? ⟨g, i * 4, none⟩ = some (.int .i64 m.seq) ∧ W.cell? ⟨g, i * 4 + 1, none⟩ = some (.int .i64 m.turn) ∧ W.cell? ⟨g, i * 4 + 2, none⟩ = some (.int .i64 m.oldest) ∧ W.cell? ⟨g, i * 4 + 3, none⟩ = some (.int .i64 m.mark) := by
  have hil : i < badL.length := hi
  refine ⟨badL[i], bad_not i hil, bad_ok i hil, fun W hW => ?_⟩
  rw [cell_of_row W g _ _ _ _ hW, cell_of_row W g _ _ _ _ hW, cell_of_row W g _ _ _ _ hW, cell_of_row W g _ _ _ _ hW]
  match i, hi with
  | 0, _ => exact ⟨rfl, rfl, rfl, rfl⟩
  | 1, _ => exact ⟨rfl, rfl, rfl, rfl⟩
  | 2, _ => exact ⟨rfl, rfl, rfl, rfl⟩
  | 3, _ => exact ⟨rfl, rfl, rfl, rfl⟩
  | 4, _ => exact ⟨rfl, rfl, rfl, rfl⟩
  | 5, _ => exact ⟨rfl, rfl, rfl, rfl⟩
  | 6, _ => exact ⟨rfl, rfl, rfl, rfl⟩
  | 7, _ => exact ⟨rfl, rfl, rfl, rfl⟩
  | n + 8, h => exact absurd h (by omega)

theorem good_cells {w : World} {g : Nat} (hb : w.heap[g]? = some (.cells (mCells goodM) 27 (0, 0))) : w.cell? ⟨g, 0, none⟩ = some (.int .i64 2305843009213693952) ∧ w.cell? ⟨g, 1, none⟩ = some (.int .i64 2147483647) ∧ w.cell? ⟨g, 2, none⟩ = some (.int .i64 1152921504606846976) ∧ w.cell? ⟨g, 3, none⟩ = some (.int .i64 1152921504606846976) := by
  obtain ⟨h0, h1, h2, h3⟩ := MstAt.of (m := goodM) hb
  exact ⟨h0, h1, h2, h3⟩

end Go.Proofs.Ythkbnhoebijdoaa
