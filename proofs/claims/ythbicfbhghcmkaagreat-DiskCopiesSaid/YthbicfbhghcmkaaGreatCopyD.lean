/-
  DiskCopies: the walk.
-/
import Derived.Test.YthbicfbhghcmkaaGreatStep
import Derived.Test.YthbicfbhghcmkaaGreatAwake
import Derived.Test.YthbicfbhghcmkaaGreatLike
import Derived.Test.YthbicfbhghcmkaaGreatCopyA
import Derived.Test.YthbicfbhghcmkaaGreatCopyB
import Derived.Test.YthbicfbhghcmkaaGreatCopyC
import Derived.Test.YthbicfbhghcmkaaGreatApart
namespace Go.Proofs.YthbicfbhghcmkaaGreat
open Go Go.RowKit Go.SM

theorem do_size : (Tryz.prog.info? 31).map (·.size) = some 5 := by kernel_rfl

def doL (x : DoD) (fv : Value) : List Value := [.int .i64 x.op, .int .i64 x.sector, .int .i64 x.n, .int .u8 (x.byte.toNat : Int), fv]

theorem DoAt.cells {w : World} {D : Nat → Prop} {b o : Nat} {x : DoD} {fv : Value} (h : DoAt w D b o x) (hf : w.cell? ⟨b, o + 4, none⟩ = some fv) : ∀ (j : Nat) (u : Value), (doL x fv)[j]? = some u → w.cell? ⟨b, o + j, none⟩ = some u := by
  intro j u hu
  unfold doL at hu
  match j with
  | 0 => simp only [List.getElem?_cons_zero, Option.some.injEq] at hu; exact hu ▸ h.1
  | 1 => simp only [List.getElem?_cons_zero, List.getElem?_cons_succ, Option.some.injEq] at hu; exact hu ▸ h.2.1
  | 2 => simp only [List.getElem?_cons_zero, List.getElem?_cons_succ, Option.some.injEq] at hu; exact hu ▸ h.2.2.1
  | 3 => simp only [List.getElem?_cons_zero, List.getElem?_cons_succ, Option.some.injEq] at hu; exact hu ▸ h.2.2.2.1
  | 4 => simp only [List.getElem?_cons_zero, List.getElem?_cons_succ, Option.some.injEq] at hu; exact hu ▸ hf
  | n + 5 => simp at hu


/-- the sets, when a disk has been copied -/
def zSet (H b ms mo r e me moe r2 : Nat) (lv lv2 : Value) : Nat → Prop := fun k => k < H ∧ ¬ dkOwn b ms mo k ∧ ¬ refOwn r lv k ∧ ¬ dkOwn e me moe k ∧ ¬ refOwn r2 lv2 k
def xSet (H r : Nat) (lv : Value) (z : Nat → Prop) : XS := ⟨fun k => k < H ∧ ¬ refOwn r lv k, z⟩

structure Copied (wc w : World) (b ms mo r e me moe r2 : Nat) (s : DS) (XA XB : XS) : Prop where
  one : Both wc w b ms mo XA r s
  two : Both wc w e me moe XB r2 s
  oneM : ∀ k, BM wc b ms mo XA k → k < w.heap.size → XB k ∧ ¬ XB.z k ∧ ¬ dkOwn e me moe k ∧ wc.heap.size ≤ k
  twoM : ∀ k, BM wc e me moe XB k → k < w.heap.size → XA k ∧ ¬ XA.z k ∧ ¬ dkOwn b ms mo k ∧ wc.heap.size ≤ k
  size : ∀ k, XA k → k < w.heap.size

theorem copied {wc wr w3 w4 : World} {b ms mo r e me moe r2 : Nat} {X : XS} {lv lv2 : Value} {L : List RSec} {s : DS} (h : Both wc wr b ms mo X r s) (hr : RefAt wr wc.heap.size X r lv L s)
    (hd : DkAt w3 e me moe s) (hm : Mod none_ wr w3) (hz : wr.heap.size ≤ e ∧ wr.heap.size ≤ me ∧ wr.heap.size ≤ moe)
    (hc : w4.heap[r2]? = some (.cells #[.int .i64 s.n, lv2, .int .i64 s.armed, .bool s.down] 51 (0, 0)))
    (ho : OwnS w4 (fun k => w3.heap.size ≤ k ∧ k ≠ r2) 96 4 lv2 L.length (rcells L)) (hm4 : Mod none_ w3 w4) (hz2 : w3.heap.size ≤ r2) :
    ∃ XA XB, Copied wc w4 b ms mo r e me moe r2 s XA XB := by
  have hs0 := h.base
  have hs1 := hm.size
  have hs2 := hm4.size
  have hm34 := hm.trans' hm4
  have o1lt : ∀ k, dkOwn b ms mo k → k < wr.heap.size := h.live.at_.own_lt
  have o1ge : ∀ k, dkOwn b ms mo k → wc.heap.size ≤ k := by rintro k (rfl | rfl | rfl); exact h.live.own.1; exact h.live.own.2.1; exact h.live.own.2.2
  have r1lt : ∀ k, refOwn r lv k → k < wr.heap.size := by
    rintro k (rfl | hk)
    · exact blk_lt hr.cells
    · exact (hr.row.row.lt k hk).2
  have r1ge : ∀ k, refOwn r lv k → wc.heap.size ≤ k ∧ ¬ X k := hr.rm
  have o2ge : ∀ k, dkOwn e me moe k → wr.heap.size ≤ k := by rintro k (rfl | rfl | rfl) <;> omega
  have o2lt : ∀ k, dkOwn e me moe k → k < w3.heap.size := hd.own_lt
  have r2ge : ∀ k, refOwn r2 lv2 k → w3.heap.size ≤ k := by
    rintro k (rfl | hk)
    · exact hz2
    · exact (ho.dom k hk).1
  have r2lt : ∀ k, refOwn r2 lv2 k → k < w4.heap.size := by
    rintro k (rfl | hk)
    · exact blk_lt hc
    · exact (ho.row.lt k hk).2
  obtain ⟨z, hzz⟩ : ∃ z, zSet w4.heap.size b ms mo r e me moe r2 lv lv2 = z := ⟨_, rfl⟩
  have zd : ∀ k, z k ↔ (k < w4.heap.size ∧ ¬ dkOwn b ms mo k ∧ ¬ refOwn r lv k ∧ ¬ dkOwn e me moe k ∧ ¬ refOwn r2 lv2 k) := fun k => by rw [← hzz]; exact Iff.rfl
  -- bytes of the sectors, in the new world
  have hby : ∀ {v : Value} {xs : List Value}, Rd wr (Byt X r lv) 1 v 512 xs → Rd w4 (fun k => (Byt X r lv k ∧ k < wr.heap.size)) 1 v 512 xs := fun hb =>
    (hb.mono (D' := fun k => Byt X r lv k ∧ k < wr.heap.size) (fun k hk hl => ⟨hk, hl⟩)).keep hm34 (fun _ _ _ e => e)
  have hbz : ∀ k, Byt X r lv k → k < wr.heap.size → z k := fun k hk hl => (zd k).2 ⟨by omega, fun e => by have := h.sub k e; exact this.2 (hk.1 this.1), fun e => e.elim (fun e => hk.2.1 e) (fun e => hk.2.2 e), fun e => by have := o2ge k e; omega, fun e => by have := r2ge k e; omega⟩
  have b1 : Both wc w4 b ms mo (xSet w4.heap.size r lv z) r s := by
    refine ⟨h.live.keep hm34, ⟨lv, L, ⟨hm34.get hr.cells (fun e => e), ⟨(hr.row.keep hm34 (fun _ _ _ e => e)).row, fun g hg => ⟨(hr.row.dom g hg).1, fun e => e.2 (.inr hg), (hr.row.dom g hg).2.2⟩⟩, fun x hx => ⟨(hby (hr.bytes x hx).1).mono ?_, (hby (hr.bytes x hx).2).mono ?_⟩, hr.rep, ⟨hr.own.1, fun e => e.2 (.inl rfl)⟩, hr.n1, hr.arm, fun k e => e.1⟩⟩, fun k hk => ⟨⟨by have := o1lt k hk; omega, fun e => (r1ge k e).2 (h.sub k hk).1⟩, fun e => ((zd k).1 e).2.1 hk⟩, fun k hk => ⟨((zd k).1 hk).1, ((zd k).1 hk).2.2.1⟩⟩
    · exact fun k hk _ => ⟨fun _ => hbz k hk.1 hk.2, hk.1.2⟩
    · exact fun k hk _ => ⟨fun _ => hbz k hk.1 hk.2, hk.1.2⟩
  have b2 : Both wc w4 e me moe (xSet w4.heap.size r2 lv2 z) r2 s := by
    refine ⟨⟨hd.keep hm4 (fun _ _ e => e), h.live.mod.trans' hm34, by omega⟩, ⟨lv2, L, ⟨hc, ⟨ho.row, fun g hg => ⟨by have := (ho.dom g hg).1; omega, fun e => e.2 (.inr hg), (ho.dom g hg).2⟩⟩, fun x hx => ⟨(hby (hr.bytes x hx).1).mono ?_, (hby (hr.bytes x hx).2).mono ?_⟩, hr.rep, ⟨by omega, fun e => e.2 (.inl rfl)⟩, hr.n1, hr.arm, fun k e => e.1⟩⟩, fun k hk => ⟨⟨by have := o2lt k hk; omega, fun e => by have := r2ge k e; have := o2lt k hk; omega⟩, fun e => ((zd k).1 e).2.2.2.1 hk⟩, fun k hk => ⟨((zd k).1 hk).1, ((zd k).1 hk).2.2.2.2⟩⟩
    · exact fun k hk _ => ⟨fun _ => hbz k hk.1 hk.2, fun e => by omega, fun e => by have := (ho.dom k e).1; omega⟩
    · exact fun k hk _ => ⟨fun _ => hbz k hk.1 hk.2, fun e => by omega, fun e => by have := (ho.dom k e).1; omega⟩
  refine ⟨_, _, ⟨b1, b2, fun k hk hl => ?_, fun k hk hl => ?_, fun k e => e.1⟩⟩
  · rcases hk with hk | hk
    · have := o1lt k hk
      exact ⟨⟨hl, fun e => by have := r2ge k e; omega⟩, fun e => ((zd k).1 e).2.1 hk, fun e => by have := o2ge k e; omega, o1ge k hk⟩
    · have h2 : refOwn r lv k := Classical.byContradiction fun e => hk.2 ⟨hl, e⟩
      have := r1lt k h2
      exact ⟨⟨hl, fun e => by have := r2ge k e; omega⟩, fun e => ((zd k).1 e).2.2.1 h2, fun e => by have := o2ge k e; omega, hk.1⟩
  · rcases hk with hk | hk
    · have h1 := o2ge k hk
      exact ⟨⟨hl, fun e => by have := r1lt k e; omega⟩, fun e => ((zd k).1 e).2.2.2.1 hk, fun e => by have := o1lt k e; omega, by omega⟩
    · have h2 : refOwn r2 lv2 k := Classical.byContradiction fun e => hk.2 ⟨hl, e⟩
      have := r2ge k h2
      exact ⟨⟨hl, fun e => by have := r1lt k e; omega⟩, fun e => ((zd k).1 e).2.2.2.2 h2, fun e => by have := o1lt k e; omega, hk.1⟩

end Go.Proofs.YthbicfbhghcmkaaGreat
