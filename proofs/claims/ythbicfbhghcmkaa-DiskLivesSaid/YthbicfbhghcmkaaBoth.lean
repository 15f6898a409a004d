/-
  A disk of the code's and one of the document's, side by side, in one state.
-/
import Derived.Test.YthbicfbhghcmkaaRefD
import Derived.Test.YthbicfbhghcmkaaArgF
namespace Go.Proofs.Ythbicfbhghcmkaa
open Go Go.RowKit Go.SM

structure Both (w0 w : World) (b ms mo : Nat) (X : Nat → Prop) (r : Nat) (s : DS) : Prop where
  live : Live w0 w b ms mo s
  ref : RefIs w w0.heap.size X r s
  sub : ∀ k, dkOwn b ms mo k → X k

section
variable {w0 w w' w1 : World} {b ms mo r : Nat} {X : Nat → Prop} {s t : DS}
theorem Live.ref (h : Live w0 w b ms mo s) (hm : Mod (RM w0.heap.size X) w w') (hs : ∀ k, dkOwn b ms mo k → X k) : Live w0 w' b ms mo s :=
  ⟨h.at_.keep hm (fun k hk e => e.2 (hs k hk)), h.mod.trans hm (fun k e hr => by have := e.1; omega), h.own⟩
theorem Both.keep (h : Both w0 w b ms mo X r s) (hm : Mod none_ w w') : Both w0 w' b ms mo X r s := ⟨h.live.keep hm, h.ref.keep hm (fun _ e => e.elim), h.sub⟩
theorem Both.xb (h : Both w0 w b ms mo X r s) : ∀ k, X k → k < w.heap.size := by
  obtain ⟨lv, L, h0⟩ := h.ref
  exact h0.xb
/-- what is new is kept apart -/
theorem Both.guard (h : Both w0 w b ms mo X r s) (hm : Mod none_ w w') : Both w0 w' b ms mo (fun k => X k ∨ (w.heap.size ≤ k ∧ k < w'.heap.size)) r s :=
  ⟨h.live.keep hm, h.ref.guard hm (fun _ e => e.elim), fun k e => .inl (h.sub k e)⟩
theorem Both.back {X' : Nat → Prop} (h : Both w0 w b ms mo X' r s) (hX : ∀ k, X k → X' k) (hs : ∀ k, dkOwn b ms mo k → X k) : Both w0 w b ms mo X r s :=
  ⟨h.live, h.ref.mono (fun k _ e => hX k e) (fun k e => h.xb k (hX k e)), hs⟩
/-- first the code's, then the document's disk is turned -/
theorem Both.turn (h : Both w0 w b ms mo X r s) (hl : Live w0 w1 b ms mo t) (hr : RefIs w' w0.heap.size X r t) (hm' : Mod (RM w0.heap.size X) w1 w') : Both w0 w' b ms mo X r t :=
  ⟨hl.ref hm' h.sub, hr, h.sub⟩
theorem Both.half (h : Both w0 w b ms mo X r s) (hm : Mod (dkOwn b ms mo) w w1) : RefIs w1 w0.heap.size X r s := h.ref.keep hm (fun k e => h.sub k e)
theorem Both.len (h : Both w0 w b ms mo X r s) (k : Int) : (latS s k).length = 512 := latS_len h.live.at_ k
theorem Both.base (h : Both w0 w b ms mo X r s) : w0.heap.size ≤ w.heap.size := h.live.mod.size

theorem both_new (w : World) (n : Int) (hn : 1 ≤ n ∧ n ≤ 8192) (hl : Live w0 w b ms mo (newS n)) :
    Calls Try.prog 16 #[.int .i64 n] w fun e w' => ∃ r, e = .returned (.pointer (some ⟨r, 0, none⟩)) ∧ Both w0 w' b ms mo (dkOwn b ms mo) r (newS n) :=
  (rf_new n w w0.heap.size (dkOwn b ms mo) hn hl.mod.size hl.at_.own_lt).mono fun _ _ ⟨r, he, hr, hm⟩ => ⟨r, he, hl.keep hm, hr, fun _ e => e⟩
end

end Go.Proofs.Ythbicfbhghcmkaa
