/-
  A disk of the call's own, with what has been turned since the call began: the methods in one form.
-/
import Derived.Test.YthbicfbhghcmkaaGreatCalm
import Derived.BigFrame
namespace Go.SM
open Go Go.RowKit

section
variable {P : Program} {w : World} {ops : Array Oper} {rest : List Oper} {o : Oper} {a : Act} {Q : Exit → Act → World → Prop}
theorem wpListG_val {s : Sem Value} {v : Value} {w1 : World} (hg : Region.wanted o (yielded ops a.tmps) = true) (he : execOp a.eval o = (do pure (Next.value (← s)))) (hs : s.run P w = .ok v w1)
    (h : wpList P ops Q rest (a.put o.dst v) w1) : wpList P ops Q (o :: rest) a w := by
  refine BigFrame.wpList_want hg fun K hK => ?_
  unfold Oper.wp
  rw [he, Sem.run_bind, hs]
  exact hK _ _ h

/-- make([]T, n, cap), T of one cell, under a guard -/
theorem wpListG_make (hg : Region.wanted o (yielded ops a.tmps) = true) (t : TypeId) (l c : Operand) (hop : o.op = .makeSlice t l c) (e : TypeId) (z : Value) (bytes : Nat) (ht : P.underlying t = some (.slice e)) (hi : (P.info? e).map (fun i => (i.zero, i.size, i.bytes)) = some (some z, 1, bytes))
    (hz : z.cells = #[z]) (kl kc : IntKind) (n cap : Nat) (hl : a.eval l = .int kl (n : Int)) (hc : a.eval c = .int kc (cap : Int)) (hn : n ≤ cap) (hb : bytes * cap ≤ 281474976710656) (hm : cap ≤ 281474976710656)
    (h : ∀ w1 g, w1.heap[g]? = some (.cells (List.replicate cap z).toArray e (0, 0)) → Mod none_ w w1 → w.heap.size ≤ g → wpList P ops Q rest (a.put o.dst (.slice (some ⟨g, 0, none⟩) n cap)) w1) :
    wpList P ops Q (o :: rest) a w := by
  obtain ⟨i, h1, h2, h3, h4⟩ := info_parts hi
  have hb' : (bytes : Int) * (cap : Int) ≤ 281474976710656 := by
    have : ((bytes * cap : Nat) : Int) ≤ 281474976710656 := by omega
    rwa [Int.natCast_mul] at this
  have hr := run_make (P := P) w t e i z ht h1 h2 kl kc (n : Int) (cap : Int) (by omega) (by omega) (by rw [h4]; exact hb') (by omega)
  simp only [Int.toNat_natCast, h3, Nat.mul_one] at hr
  have e1 : madeCells z.cells cap = (List.replicate cap z).toArray := by
    rw [hz]
    apply Array.ext'
    rw [toList_madeCells_one]
  rw [e1] at hr
  exact wpListG_val (s := Instr.makeSlice t (a.eval l) (a.eval c)) hg (by unfold execOp; rw [hop]) (by rw [hl, hc]; exact hr) (h _ _ (heap_alloc_new w _) ((Mod.refl _ _).alloc _) (Nat.le_refl _))
end
end Go.SM

namespace Go.Proofs.YthbicfbhghcmkaaGreat
open Go Go.RowKit Go.SM

structure Live (w0 w : World) (b ms mo : Nat) (s : DS) : Prop where
  at_ : DkAt w b ms mo s
  mod : Mod none_ w0 w
  own : w0.heap.size ≤ b ∧ w0.heap.size ≤ ms ∧ w0.heap.size ≤ mo

section
variable {w0 w w' : World} {b ms mo : Nat} {s : DS}
theorem Live.keep (h : Live w0 w b ms mo s) (hm : Mod none_ w w') : Live w0 w' b ms mo s := ⟨h.at_.keep hm (fun _ _ e => e), h.mod.trans' hm, h.own⟩
theorem Live.turn {t : DS} (h : Live w0 w b ms mo s) (hd : DkAt w' b ms mo t) (hm : Mod (dkOwn b ms mo) w w') : Live w0 w' b ms mo t := ⟨hd, modOwn h.mod hm h.own, h.own⟩
/-- a slice of the law's own, that was made behind the disk, stays -/
theorem Live.rd (h : Live w0 w b ms mo s) {D : Nat → Prop} {sz n : Nat} {v : Value} {xs : List Value} {w1 : World} (hr : Rd w1 D sz v n xs) (hd : ∀ r, D r → w.heap.size ≤ r) (hm : Mod (dkOwn b ms mo) w1 w') : Rd w' D sz v n xs :=
  hr.keep hm (fun r hr _ e => by have h1 := hd r hr; have h2 := h.at_.own_lt r e; omega)

theorem lv_new (w : World) (n : Int) (h : 1 ≤ n ∧ n ≤ 8192) (hm : Mod none_ w0 w) :
    Calls Tryz.prog 4 #[.int .i64 n] w fun e w' => ∃ b ms mo, e = .returned (.pointer (some ⟨b, 0, none⟩)) ∧ Live w0 w' b ms mo (newS n) :=
  (new_yes n w h).mono fun e w' ⟨b, ms, mo, he, hd, hm', h1, h2, h3⟩ => ⟨b, ms, mo, he, hd, hm.trans' hm', by have := hm.size; omega⟩

theorem lv_arm (h : Live w0 w b ms mo s) (n : Int) (t : DS) (ht : armS s n = t) (hn : n ≤ 9223372036854775807) :
    Calls Tryz.prog 27 #[.pointer (some ⟨b, 0, none⟩), .int .i64 n] w fun e w' => e = .returned (.tuple #[]) ∧ Live w0 w' b ms mo t ∧ Mod (dkOwn b ms mo) w w' := by
  subst ht
  exact (arm_any h.at_ n hn).mono fun e w' ⟨he, hd, hm⟩ => ⟨he, h.turn hd (hm.mono fun _ _ e => .inl e), hm.mono fun _ _ e => .inl e⟩

theorem lv_write (h : Live w0 w b ms mo s) (n : Int) {D : Nat → Prop} {v : Value} {l : List UInt8} (hx : Rd w D 1 v 512 (u8s l)) (t : DS) (r : Int) (hm : mayE s n = 0) (ht : writeS s n l = t) (hr : downE t = r) :
    Calls Tryz.prog 17 #[.pointer (some ⟨b, 0, none⟩), .int .i64 n, v] w fun e w' => e = .returned (.int .i64 r) ∧ Live w0 w' b ms mo t ∧ Mod (dkOwn b ms mo) w w' := by
  subst ht
  subst hr
  exact (write_ok h.at_ n hx hm).mono fun e w' ⟨he, hd, hm⟩ => ⟨he, h.turn hd hm, hm⟩

theorem lv_write_no (h : Live w0 w b ms mo s) (n : Int) (v : Value) (r : Int) (hm : mayE s n = r) (hr : r ≠ 0) :
    Calls Tryz.prog 17 #[.pointer (some ⟨b, 0, none⟩), .int .i64 n, v] w fun e w' => e = .returned (.int .i64 r) ∧ Live w0 w' b ms mo s ∧ Mod (dkOwn b ms mo) w w' := by
  subst hm
  exact (write_no h.at_ n v hr).mono fun e w' ⟨he, hw⟩ => ⟨he, by rw [← hw]; exact h, by rw [← hw]; exact Mod.refl _ _⟩

theorem lv_write_arg (h : Live w0 w b ms mo s) (n : Int) (A : Option Addr) (m c : Nat) (hm : mayE s n = 0) (hn : m ≠ 512) :
    Calls Tryz.prog 17 #[.pointer (some ⟨b, 0, none⟩), .int .i64 n, .slice A m c] w fun e w' => e = .returned (.int .i64 2) ∧ Live w0 w' b ms mo s ∧ Mod (dkOwn b ms mo) w w' :=
  (write_arg h.at_ n A m c hm hn).mono fun e w' ⟨he, hw⟩ => ⟨he, by rw [← hw]; exact h, by rw [← hw]; exact Mod.refl _ _⟩

theorem lv_sync (h : Live w0 w b ms mo s) (t : DS) (ha : s.armed = 0) (hd : s.down = false) (ht : flushS s = t) :
    Calls Tryz.prog 19 #[.pointer (some ⟨b, 0, none⟩)] w fun e w' => e = .returned (.int .i64 0) ∧ Live w0 w' b ms mo t ∧ Mod (dkOwn b ms mo) w w' := by
  subst ht
  exact (sync_calm h.at_ ha hd).mono fun e w' ⟨he, hd, hm⟩ => ⟨he, h.turn hd hm, hm⟩

theorem lv_sync_down (h : Live w0 w b ms mo s) (t : DS) (hm : mayE s 0 = 0) (ht : crashS s = t) (hd : (crashS s).down = true) :
    Calls Tryz.prog 19 #[.pointer (some ⟨b, 0, none⟩)] w fun e w' => e = .returned (.int .i64 8) ∧ Live w0 w' b ms mo t ∧ Mod (dkOwn b ms mo) w w' := by
  subst ht
  exact (sync_down h.at_ hm hd).mono fun e w' ⟨he, hd, hm⟩ => ⟨he, h.turn hd hm, hm⟩

theorem lv_sync_no (h : Live w0 w b ms mo s) (r : Int) (hm : mayE s 0 = r) (hr : r ≠ 0) :
    Calls Tryz.prog 19 #[.pointer (some ⟨b, 0, none⟩)] w fun e w' => e = .returned (.int .i64 r) ∧ Live w0 w' b ms mo s ∧ Mod (dkOwn b ms mo) w w' := by
  subst hm
  exact (sync_no h.at_ hr).mono fun e w' ⟨he, hw⟩ => ⟨he, by rw [← hw]; exact h, by rw [← hw]; exact Mod.refl _ _⟩

theorem lv_read (h : Live w0 w b ms mo s) (n : Int) (l : List UInt8) (hl : latS s n = l) (hm : mayE s n = 0) :
    Calls Tryz.prog 13 #[.pointer (some ⟨b, 0, none⟩), .int .i64 n] w fun e w' =>
      ∃ v, e = .returned (.tuple #[v, .int .i64 0]) ∧ Rd w' (Fr w) 1 v l.length (u8s l) ∧ Live w0 w' b ms mo s ∧ Mod (dkOwn b ms mo) w w' := by
  subst hl
  refine (read_ok h.at_ n hm).mono fun _ _ ⟨v, he, ho, hm'⟩ => ⟨v, he, ?_, h.keep hm', hm'.mono fun _ _ e => e.elim⟩
  rw [latS_len h.at_ n]
  exact ho.rd

theorem lv_read_no (h : Live w0 w b ms mo s) (n : Int) (r : Int) (hm : mayE s n = r) (hr : r ≠ 0) :
    Calls Tryz.prog 13 #[.pointer (some ⟨b, 0, none⟩), .int .i64 n] w fun e w' => e = .returned (.tuple #[.slice none 0 0, .int .i64 r]) ∧ Live w0 w' b ms mo s ∧ Mod (dkOwn b ms mo) w w' := by
  subst hm
  exact (read_no h.at_ n hr).mono fun e w' ⟨he, hw⟩ => ⟨he, by rw [← hw]; exact h, by rw [← hw]; exact Mod.refl _ _⟩

theorem lv_down (h : Live w0 w b ms mo s) (r : Bool) (hr : s.down = r) :
    Calls Tryz.prog 33 #[.pointer (some ⟨b, 0, none⟩)] w fun e w' => e = .returned (.bool r) ∧ Live w0 w' b ms mo s ∧ Mod (dkOwn b ms mo) w w' := by
  subst hr
  exact (down_any h.at_).mono fun e w' ⟨he, hw⟩ => ⟨he, by rw [← hw]; exact h, by rw [← hw]; exact Mod.refl _ _⟩

theorem lv_sectors (h : Live w0 w b ms mo s) (r : Int) (hr : s.n = r) :
    Calls Tryz.prog 20 #[.pointer (some ⟨b, 0, none⟩)] w fun e w' => e = .returned (.int .i64 r) ∧ Live w0 w' b ms mo s ∧ Mod (dkOwn b ms mo) w w' := by
  subst hr
  exact (sectors_any h.at_).mono fun e w' ⟨he, hw⟩ => ⟨he, by rw [← hw]; exact h, by rw [← hw]; exact Mod.refl _ _⟩

theorem lv_wake (h : Live w0 w b ms mo s) {D : Nat → Prop} {v : Value} {ks : List Int} (hx : Rd w D 1 v ks.length (ints ks)) (hD : ∀ r, D r → r < w.heap.size → ¬ dkOwn b ms mo r) (t : DS) (ht : wakeS s ks = t) (hlen : ks.length ≤ 140737488355328) :
    Calls Tryz.prog 12 #[.pointer (some ⟨b, 0, none⟩), v] w fun e w' => e = .returned (.tuple #[]) ∧ Live w0 w' b ms mo t ∧ Mod (dkOwn b ms mo) w w' := by
  subst ht
  exact (wake_any h.at_ hx hD hlen).mono fun e w' ⟨he, hd, hm⟩ => ⟨he, h.turn hd hm, hm⟩

theorem lv_same (h : Live w0 w b ms mo s) {D D' : Nat → Prop} {v v' : Value} {l l' : List UInt8} (hx : Rd w D 1 v l.length (u8s l)) (hy : Rd w D' 1 v' l'.length (u8s l')) (hlen : l.length ≤ 140737488355328) (r : Bool) (hr : decide (l = l') = r) :
    Calls Tryz.prog 15 #[v, v'] w fun e w' => e = .returned (.bool r) ∧ Live w0 w' b ms mo s ∧ Mod (dkOwn b ms mo) w w' := by
  subst hr
  exact (same_any hx hy hlen).mono fun e w' ⟨he, hm⟩ => ⟨he, h.keep hm, hm.mono fun _ _ e => e.elim⟩
end

end Go.Proofs.YthbicfbhghcmkaaGreat
