/-
  Appending onto a slice, while the slice as it was is still looked at: plain words. No program in sight.
-/
import Derived.Test.YthbicfbhghcmkaaGreatOps
namespace Go.SM
open Go Go.RowKit

/-- the first k elements of a slice of the call's own -/
theorem OwnS.pre {w : World} {D : Nat → Prop} {e : TypeId} {sz n c k : Nat} {A : Option Addr} {xs : List Value} (h : OwnS w D e sz (.slice A n c) n xs) (hk : k ≤ n) (hA : A ≠ none) : OwnS w D e sz (.slice A k c) k (xs.take (k * sz)) := by
  have hlen := h.row.1
  refine ⟨⟨by rw [List.length_take, hlen]; exact Nat.min_eq_left (Nat.mul_le_mul_right _ hk), ?_⟩, fun g hg => h.dom g (by cases A <;> first | exact hg | (simp [Value.ownBlock] at hg))⟩
  rcases h.row.2 with ⟨h1, _⟩ | ⟨g, cap, cur, h1, h2, h3, h4, h5, h6, h7⟩
  · simp only [Value.slice.injEq] at h1; exact absurd h1.1 hA
  · simp only [Value.slice.injEq] at h1
    obtain ⟨rfl, _, rfl⟩ := h1
    refine .inr ⟨g, c, cur, rfl, h2, h3, by omega, h5, h6, ?_⟩
    rw [← h7, List.take_take, Nat.min_eq_left (Nat.mul_le_mul_right _ hk)]

/-- g is what v has grown to; v is still looked at -/
structure Pair (w : World) (H : Nat) (e : TypeId) (sz : Nat) (v g : Value) (n m : Nat) (xs : List Value) : Prop where
  own : OwnS w (fun b => v.ownBlock = some b ∨ H ≤ b) e sz g (n + m) xs
  old : OwnS w (fun b => v.ownBlock = some b) e sz v n (xs.take (n * sz))
  same : g.ownBlock = v.ownBlock → ∃ A c, v = .slice A n c ∧ g = .slice A (n + m) c

section
variable {w w' : World} {H : Nat} {e : TypeId} {sz n m : Nat} {v g : Value} {xs : List Value} {S : Nat → Prop}
theorem Pair.start (h : OwnS w (fun b => v.ownBlock = some b) e sz v n xs) (H : Nat) : Pair w H e sz v v n 0 xs := by
  refine ⟨h.mono fun _ hk _ => .inl hk, ?_, fun _ => ?_⟩
  · rw [List.take_of_length_le (by rw [h.row.1]; exact Nat.le_refl _)]; exact h
  · obtain ⟨A, c, hv⟩ := h.rd.slice
    exact ⟨A, c, hv, hv⟩
theorem Pair.keep (h : Pair w H e sz v g n m xs) (hm : Mod S w w') (hS : ∀ b, (v.ownBlock = some b ∨ H ≤ b) → b < w.heap.size → ¬ S b) : Pair w' H e sz v g n m xs :=
  ⟨h.own.keep hm hS, h.old.keep hm (fun b hb => hS b (.inl hb)), h.same⟩
theorem Pair.low {H' : Nat} (h : Pair w H e sz v g n m xs) (hH : H' ≤ H) : Pair w H' e sz v g n m xs := ⟨h.own.mono fun _ hb _ => hb.imp id (Nat.le_trans hH), h.old, h.same⟩
theorem Pair.rd (h : Pair w H e sz v g n m xs) : Rd w (fun b => v.ownBlock = some b ∨ H ≤ b) sz g (n + m) xs := h.own.rd
end

section
variable {P : Program} {w : World}
theorem Pair.append {t e : TypeId} {sz bytes : Nat} (E : Elt P t e sz bytes) (ty : TypeId) {H n m : Nat} {v g : Value} {xs : List Value} (h : Pair w H e sz v g n m xs) (hv : ∀ b, v.ownBlock = some b → b < H) (hH : H ≤ w.heap.size)
    {Dx : Nat → Prop} {x : Value} {k : Nat} {news : List Value} (hx : Rd w Dx sz x k news) (hk : 0 < k) (h1 : ∀ u ∈ news, u.oneCell' = true) (hb : (n + m + k) * bytes ≤ 140737488355328) (hm : n + m + k ≤ 140737488355328) :
    ∃ g' w', (Builtin.append_ #[t, t] ty #[g, x]).run P w = .ok g' w' ∧ Pair w' H e sz v g' n (m + k) (xs ++ news) ∧ Mod (fun b => v.ownBlock = some b ∨ H ≤ b) w w' := by
  obtain ⟨b, o, c, rfl, hmc, _, _, hc⟩ := hx.form hk
  have hlx := hx.len
  obtain ⟨i, z, hi, hz, hs, hby, hzs⟩ := E.info
  have hcells : ∀ j u, news[j]? = some u → w.cell? ((⟨b, o, none⟩ : Addr).add j) = some u := fun j u hu => by rw [Addr.add_lit]; exact hc j u hu
  obtain ⟨g', w', hr, h2, h3, _, h5⟩ := run_append_own_at (P := P) w 0 t ty e i z sz bytes E.under hi hz hs hby hzs E.pos g (n + m) xs h.own.row ⟨b, o, none⟩ k c news hlx hcells h1 (by simp only [maxLen]; omega) hb (Nat.zero_le _)
  have hlen := h.own.row.1
  have htk : (xs ++ news).take (n * sz) = xs.take (n * sz) := by
    rw [List.take_append_of_le_length (by rw [hlen]; exact Nat.mul_le_mul_right _ (by omega))]
  have hgm : Mod (fun b => v.ownBlock = some b ∨ H ≤ b) w w' := (Mod.refl _ _).grown h3 (fun r hr => .inl (h.own.dom r hr))
  have hown : OwnS w' (fun b => v.ownBlock = some b ∨ H ≤ b) e sz g' (n + (m + k)) (xs ++ news) := by
    refine ⟨by rw [← Nat.add_assoc]; exact h2, fun r hr => ?_⟩
    rcases h5 with e5 | e5
    · rw [e5] at hr; exact h.own.dom r hr
    · rw [e5] at hr; injection hr with hr; exact .inr (by omega)
  have hnew : g'.ownBlock = some w.heap.size → g'.ownBlock = v.ownBlock → False := fun e1 e2 => by
    have := hv w.heap.size (by rw [← e2, e1])
    omega
  rcases h.own.row.2 with ⟨rfl, h0⟩ | ⟨gg, cap, cur, rfl, hbg, hg, hnc, hcm, hcs, htake⟩
  · have hmn : Mod none_ w w' := (Mod.refl _ _).grown h3 (fun r hr => by simp [Value.ownBlock] at hr)
    refine ⟨g', w', hr, ⟨hown, by rw [htk]; exact h.old.keep hmn (fun _ _ _ e => e), fun e1 => ?_⟩, hgm⟩
    rcases h5 with e5 | e5
    · exfalso
      rcases h2.2 with ⟨_, h00⟩ | ⟨g1, c1, _, he, _⟩
      · omega
      · rw [he] at e5; simp [Value.ownBlock] at e5
    · exact absurd e1 (hnew e5)
  · by_cases hroom : n + m + k ≤ cap
    · have hfit : (n + m) * i.size + news.length ≤ cur.size := by rw [hlx, hcs, hs, ← Nat.add_mul]; exact Nat.mul_le_mul_right _ hroom
      have hr2 := run_append_room (P := P) w t ty e i E.under hi gg (n + m) cap cur hg ⟨b, o, none⟩ k c news (by rw [hlx, hs]) hcells h1 hroom hfit
      rw [hr] at hr2
      injection hr2 with e1 e2
      by_cases hsame : gg < H
      · have hvb : v.ownBlock = some gg := (h.own.dom gg rfl).resolve_right (by omega)
        obtain ⟨A, c', hv1, hv2⟩ := h.same (by rw [hvb]; rfl)
        simp only [Value.slice.injEq] at hv2
        obtain ⟨rfl, _, rfl⟩ := hv2
        subst hv1
        refine ⟨g', w', hr, ⟨hown, ?_, fun _ => ⟨_, _, rfl, by rw [e1, Nat.add_assoc]⟩⟩, hgm⟩
        rw [e1] at hown
        have h9 := (show OwnS w' _ e sz (.slice (some ⟨gg, 0, none⟩) (n + (m + k)) cap) (n + (m + k)) (xs ++ news) from by rw [Nat.add_assoc] at hown; exact hown).pre (k := n) (by omega) (by simp)
        exact ⟨h9.row, fun r hr => hr⟩
      · have hmg : Mod (· = gg) w w' := (Mod.refl _ _).grown h3 (fun r hr => .inl (by simp [Value.ownBlock] at hr; exact hr.symm))
        refine ⟨g', w', hr, ⟨hown, by rw [htk]; exact h.old.keep hmg (fun q hq _ e => hsame (hv gg (e ▸ hq))), fun e3 => ?_⟩, hgm⟩
        rw [e1] at e3
        exact absurd (hv gg e3.symm) hsame
    · have holds : ∀ j u, xs[j]? = some u → w.cell? ((⟨gg, 0, none⟩ : Addr).add j) = some u := h.own.row.cells (g := gg) rfl
      have hr2 := run_append_grow (P := P) w t ty e i z E.under hi hz ⟨gg, 0, none⟩ (n + m) cap xs (by rw [hlen, hs]) holds ⟨b, o, none⟩ k c news (by rw [hlx, hs]) hcells (by omega) (by omega) (by rw [hby]; exact growslice_fits (by omega) hb)
      rw [hr] at hr2
      injection hr2 with e1 e2
      have hmn : Mod none_ w w' := by rw [e2]; exact (Mod.refl none_ w).drew.alloc _
      refine ⟨g', w', hr, ⟨hown, by rw [htk]; exact h.old.keep hmn (fun _ _ _ e => e), fun e3 => ?_⟩, hgm⟩
      exact absurd e3 (hnew (by rw [e1]; rfl))
end

section
variable {P : Program} {w : World} {ops : Array Oper} {rest : List Oper} {o : Oper} {a : Act} {Q : Exit → Act → World → Prop}
theorem wpList_append_pair (hg : o.guard = none) (s x : Operand) (t : TypeId) (hop : o.op = .call { callee := .builtin .append, args := #[s, x], argTypes := #[t, t] }) {e : TypeId} {sz bytes : Nat} (E : Elt P t e sz bytes)
    {H n m : Nat} {v g : Value} {xs : List Value} (hs : a.eval s = g) (h0 : Pair w H e sz v g n m xs) (hv : ∀ b, v.ownBlock = some b → b < H) (hH : H ≤ w.heap.size) {Dx : Nat → Prop} {xv : Value} {k : Nat} {news : List Value} (hxv : a.eval x = xv) (hx : Rd w Dx sz xv k news)
    (hk : 0 < k) (h1 : ∀ u ∈ news, u.oneCell' = true) (hb : (n + m + k) * bytes ≤ 140737488355328) (hm : n + m + k ≤ 140737488355328)
    (h : ∀ g' w', Pair w' H e sz v g' n (m + k) (xs ++ news) → Mod (fun b => v.ownBlock = some b ∨ H ≤ b) w w' → wpList P ops Q rest (a.put o.dst g') w') : wpList P ops Q (o :: rest) a w := by
  obtain ⟨v', w', hr, h2, h3⟩ := h0.append E o.type hv hH hx hk h1 hb hm
  refine wpList_val (s := Builtin.append_ #[t, t] o.type #[a.eval s, a.eval x]) hg ?_ (by rw [hs, hxv]; exact hr) (h _ _ h2 h3)
  obtain ⟨_, op, _, _, _, _⟩ := o
  cases hop
  rw [BigFrame.execOp_builtin, BigFrame.builtin_append, List.map_toArray, List.map_cons, List.map_cons, List.map_nil]
end
end Go.SM
