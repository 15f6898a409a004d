/-
  A disk of the code's and one of the document's, side by side, in one state.
-/
import Derived.Test.YthbicfbhghcmkaaGreatRefD
import Derived.Test.YthbicfbhghcmkaaGreatArgF
namespace Go.Proofs.YthbicfbhghcmkaaGreat
open Go Go.RowKit Go.SM

structure Both (w0 w : World) (b ms mo : Nat) (X : XS) (r : Nat) (s : DS) : Prop where
  live : Live w0 w b ms mo s
  ref : RefIs w w0.heap.size X r s
  sub : ∀ k, dkOwn b ms mo k → X k ∧ ¬ X.z k
  zb : ∀ k, X.z k → X k

/-- what a call may turn of what was there -/
def BM (w0 : World) (b ms mo : Nat) (X : XS) : Nat → Prop := fun k => dkOwn b ms mo k ∨ RM w0.heap.size X k

/-- .. and what has been turned since wa -/
structure Bth (wa w0 w : World) (b ms mo : Nat) (X0 X : XS) (r : Nat) (s : DS) : Prop where
  both : Both w0 w b ms mo X r s
  md : Mod (BM w0 b ms mo X0) wa w
  sb : (∀ k, X0 k → X k) ∧ X.z = X0.z

section
variable {wa w0 w w' w1 : World} {b ms mo r g : Nat} {X X0 : XS} {s t : DS}
theorem Live.ref (h : Live w0 w b ms mo s) (hm : Mod (RM w0.heap.size X) w w') (hs : ∀ k, dkOwn b ms mo k → X k ∧ ¬ X.z k) : Live w0 w' b ms mo s :=
  ⟨h.at_.keep hm (fun k hk e => e.2 (hs k hk).1), h.mod.trans hm (fun k e hr => by have := e.1; omega), h.own⟩
theorem Both.keep (h : Both w0 w b ms mo X r s) (hm : Mod none_ w w') : Both w0 w' b ms mo X r s := ⟨h.live.keep hm, h.ref.keep hm (fun _ e => e.elim), h.sub, h.zb⟩
theorem Both.xb (h : Both w0 w b ms mo X r s) : ∀ k, X k → k < w.heap.size := by
  obtain ⟨lv, L, h0⟩ := h.ref
  exact h0.xb
/-- what is new is kept apart -/
theorem Both.guard (h : Both w0 w b ms mo X r s) (hm : Mod none_ w w') : Both w0 w' b ms mo (XS.mk (fun k => X k ∨ (w.heap.size ≤ k ∧ k < w'.heap.size)) X.z) r s :=
  ⟨h.live.keep hm, h.ref.guard hm (fun _ e => e.elim), fun k e => ⟨.inl (h.sub k e).1, (h.sub k e).2⟩, fun k e => .inl (h.zb k e)⟩
theorem Both.half (h : Both w0 w b ms mo X r s) (hm : Mod (dkOwn b ms mo) w w1) : RefIs w1 w0.heap.size X r s := h.ref.keep hm h.sub
theorem Both.len (h : Both w0 w b ms mo X r s) (k : Int) : (latS s k).length = 512 := latS_len h.live.at_ k
theorem Both.base (h : Both w0 w b ms mo X r s) : w0.heap.size ≤ w.heap.size := h.live.mod.size
/-- first the code's, then the document's disk is turned -/
theorem Both.turn (h : Both w0 w b ms mo X r s) (hl : Live w0 w1 b ms mo t) (hr : RefIs w' w0.heap.size X r t) (hm' : Mod (RM w0.heap.size X) w1 w') : Both w0 w' b ms mo X r t :=
  ⟨hl.ref hm' h.sub, hr, h.sub, h.zb⟩
/-- others' blocks are turned -/
theorem Both.others {S : Nat → Prop} (h : Both w0 w b ms mo X r s) (hm : Mod S w w') (hS : ∀ k, S k → k < w.heap.size → X k ∧ ¬ X.z k ∧ ¬ dkOwn b ms mo k ∧ w0.heap.size ≤ k) : Both w0 w' b ms mo X r s := by
  have hm2 : Mod (fun k => S k ∧ k < w.heap.size) w w' := hm.mono (fun k hk e => ⟨e, hk⟩)
  exact ⟨⟨h.live.at_.keep hm2 (fun k hk e => (hS k e.1 e.2).2.2.1 hk), h.live.mod.trans hm2 (fun k e hr => by have := (hS k e.1 e.2).2.2.2; omega), h.live.own⟩, h.ref.keep hm2 (fun k e => ⟨(hS k e.1 e.2).1, (hS k e.1 e.2).2.1⟩), h.sub, h.zb⟩
theorem Both.others' {S : Nat → Prop} (h : Both w0 w b ms mo X r s) (hm : Mod S w w') (hS : ∀ k, S k → k < w.heap.size → X k ∧ ¬ X.z k ∧ ¬ dkOwn b ms mo k ∧ w0.heap.size ≤ k) : Both w0 w' b ms mo (XS.mk (fun k => X k ∨ (w.heap.size ≤ k ∧ k < w'.heap.size)) X.z) r s := by
  have hm2 : Mod (fun k => S k ∧ k < w.heap.size) w w' := hm.mono (fun k hk e => ⟨e, hk⟩)
  exact ⟨⟨h.live.at_.keep hm2 (fun k hk e => (hS k e.1 e.2).2.2.1 hk), h.live.mod.trans hm2 (fun k e hr => by have := (hS k e.1 e.2).2.2.2; omega), h.live.own⟩, h.ref.guard hm2 (fun k e => ⟨(hS k e.1 e.2).1, (hS k e.1 e.2).2.1⟩), fun k e => ⟨.inl (h.sub k e).1, (h.sub k e).2⟩, fun k e => .inl (h.zb k e)⟩

theorem Bth.start (h : Both w0 w b ms mo X r s) : Bth w w0 w b ms mo X X r s := ⟨h, Mod.refl _ _, fun _ e => e, rfl⟩
theorem Bth.live (h : Bth wa w0 w b ms mo X0 X r s) : Live w0 w b ms mo s := h.both.live
theorem Bth.ref (h : Bth wa w0 w b ms mo X0 X r s) : RefIs w w0.heap.size X r s := h.both.ref
theorem Bth.sub (h : Bth wa w0 w b ms mo X0 X r s) : ∀ k, dkOwn b ms mo k → X k ∧ ¬ X.z k := h.both.sub
theorem Bth.zb (h : Bth wa w0 w b ms mo X0 X r s) : ∀ k, X.z k → X k := h.both.zb
theorem Bth.xb (h : Bth wa w0 w b ms mo X0 X r s) : ∀ k, X k → k < w.heap.size := h.both.xb
theorem Bth.half (h : Bth wa w0 w b ms mo X0 X r s) (hm : Mod (dkOwn b ms mo) w w1) : RefIs w1 w0.heap.size X r s := h.both.half hm
theorem Bth.len (h : Bth wa w0 w b ms mo X0 X r s) (k : Int) : (latS s k).length = 512 := h.both.len k
theorem Bth.base (h : Bth wa w0 w b ms mo X0 X r s) : w0.heap.size ≤ w.heap.size := h.both.base
theorem Bth.base' (h : Bth wa w0 w b ms mo X0 X r s) : wa.heap.size ≤ w.heap.size := h.md.size
theorem Bth.keep (h : Bth wa w0 w b ms mo X0 X r s) (hm : Mod none_ w w') : Bth wa w0 w' b ms mo X0 X r s := ⟨h.both.keep hm, h.md.trans hm (fun _ e _ => e.elim), h.sb⟩
theorem Bth.guard (h : Bth wa w0 w b ms mo X0 X r s) (hm : Mod none_ w w') : Bth wa w0 w' b ms mo X0 (XS.mk (fun k => X k ∨ (w.heap.size ≤ k ∧ k < w'.heap.size)) X.z) r s :=
  ⟨h.both.guard hm, h.md.trans hm (fun _ e _ => e.elim), fun k e => .inl (h.sb.1 k e), h.sb.2⟩
theorem Bth.turn (h : Bth wa w0 w b ms mo X0 X r s) (hl : Live w0 w1 b ms mo t) (hm : Mod (dkOwn b ms mo) w w1) (hr : RefIs w' w0.heap.size X r t) (hm' : Mod (RM w0.heap.size X) w1 w') : Bth wa w0 w' b ms mo X0 X r t :=
  ⟨h.both.turn hl hr hm', (h.md.trans hm (fun _ e _ => .inl e)).trans hm' (fun k e _ => .inr ⟨e.1, fun e2 => e.2 (h.sb.1 k e2)⟩), h.sb⟩
theorem Bth.other (h : Bth wa w0 w b ms mo X0 X r s) (hm : Mod (· = g) w w') (hg : X g ∧ ¬ X.z g ∧ ¬ dkOwn b ms mo g ∧ w0.heap.size ≤ g) (ha : wa.heap.size ≤ g) : Bth wa w0 w' b ms mo X0 X r s :=
  ⟨h.both.others hm (fun k e _ => e ▸ hg), h.md.trans hm (fun k e hk => by omega), h.sb⟩
theorem Bth.fin (h : Bth wa w0 w b ms mo X0 X r s) (hs : (∀ k, dkOwn b ms mo k → X0 k ∧ ¬ X0.z k) ∧ ∀ k, X0.z k → X0 k) : Both w0 w b ms mo X0 r s ∧ Mod (BM w0 b ms mo X0) wa w :=
  ⟨⟨h.live, h.ref.mono (fun k _ e => h.sb.1 k e) (fun k _ _ e => by rw [← h.sb.2]; exact e) (fun k e => h.xb k (h.sb.1 k e)), hs.1, hs.2⟩, h.md⟩

theorem both_new (w : World) (n : Int) (hn : 1 ≤ n ∧ n ≤ 8192) (hl : Live w0 w b ms mo (newS n)) :
    Calls Tryz.prog 5 #[.int .i64 n] w fun e w' => ∃ r, e = .returned (.pointer (some ⟨r, 0, none⟩)) ∧ Both w0 w' b ms mo (XS.mk (dkOwn b ms mo) none_) r (newS n) :=
  (rf_new n w w0.heap.size (XS.mk (dkOwn b ms mo) none_) hn hl.mod.size hl.at_.own_lt).mono fun _ _ ⟨r, he, hr, hm⟩ => ⟨r, he, hl.keep hm, hr, fun _ e => ⟨e, fun e => e⟩, fun _ e => e.elim⟩
end

end Go.Proofs.YthbicfbhghcmkaaGreat
