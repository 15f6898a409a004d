/-
  The document's disk: Read, Write.
-/
import Derived.Test.YthbicfbhghcmkaaGreatRefA
namespace Go.SM
open Go Go.RowKit
section
variable {P : Program} {w : World} {ops : Array Oper} {o : Oper} {a : Act} {Q : Exit → Act → World → Prop} {K : Act → World → Prop} {E0 : Prop}
/-- append at a step of a region that draws its order -/
theorem step_append (hg : o.guard = none) (s x : Operand) (t : TypeId) (hop : o.op = .call { callee := .builtin .append, args := #[s, x], argTypes := #[t, t] }) {e : TypeId} {sz bytes : Nat} (E : Elt P t e sz bytes)
    {D Dx : Nat → Prop} {v : Value} {n : Nat} {xs : List Value} (hs : a.eval s = v) (hown : OwnS w D e sz v n xs) {xv : Value} {m : Nat} {news : List Value} (hxv : a.eval x = xv) (hx : Rd w Dx sz xv m news)
    (h1 : ∀ u ∈ news, u.oneCell' = true) (hb : (n + m) * bytes ≤ 140737488355328) (hm : n + m ≤ 140737488355328) (hD : ∀ r, w.heap.size ≤ r → D r)
    (h : ∀ v' w', OwnS w' D e sz v' (n + m) (xs ++ news) → Mod D w w' → (v'.ownBlock = v.ownBlock ∨ v'.ownBlock = some w.heap.size) → K (a.put o.dst v') w') : if Region.wanted o (yielded ops a.tmps) = true then Oper.wp P o a w K Q else E0 := by
  have hw : Region.wanted o (yielded ops a.tmps) = true := by simp [Region.wanted, hg]
  rw [if_pos hw]
  obtain ⟨v', w', hr, h2, h3, h4⟩ : ∃ v' w', (Builtin.append_ #[t, t] o.type #[v, xv]).run P w = .ok v' w' ∧ OwnS w' D e sz v' (n + m) (xs ++ news) ∧ Mod D w w' ∧ (v'.ownBlock = v.ownBlock ∨ v'.ownBlock = some w.heap.size) := by
    obtain ⟨A, c, rfl, hmc, hlen, hcells⟩ := hx
    obtain ⟨i, z, hi, hz, hs, hby, hzs⟩ := E.info
    rcases Nat.eq_zero_or_pos m with h0 | h0
    · subst h0
      have hn : news = [] := List.eq_nil_of_length_eq_zero (by simpa using hlen)
      subst hn
      rcases A with _ | ad
      · exact ⟨v, w, run_append_nil_ E o.type hown c, by simpa using hown, Mod.refl _ _, .inl rfl⟩
      · obtain ⟨v', w', hr, h2, h3, _, h5⟩ := run_append_own_at (P := P) w 0 t o.type e i z sz bytes E.under hi hz hs hby hzs E.pos v n xs hown.row ad 0 c [] (by simp) (by simp) (by simp) (by simp only [maxLen]; omega) hb (Nat.zero_le _)
        refine ⟨v', w', hr, ⟨h2, ?_⟩, (Mod.refl _ _).grown h3 (fun k hk => .inl (hown.dom k hk)), h5⟩
        rcases h5 with e | e <;> rw [e]
        · exact hown.dom
        · intro g hg; injection hg with hg; subst hg; exact hD _ (Nat.le_refl _)
    · obtain ⟨b, off, rfl, _, _, hc⟩ := hcells h0
      obtain ⟨v', w', hr, h2, h3, _, h5⟩ := run_append_own_at (P := P) w 0 t o.type e i z sz bytes E.under hi hz hs hby hzs E.pos v n xs hown.row ⟨b, off, none⟩ m c news hlen (fun j u hu => by rw [Addr.add_lit]; exact hc j u hu) h1 (by simp only [maxLen]; omega) hb (Nat.zero_le _)
      refine ⟨v', w', hr, ⟨h2, ?_⟩, (Mod.refl _ _).grown h3 (fun k hk => .inl (hown.dom k hk)), h5⟩
      rcases h5 with e | e <;> rw [e]
      · exact hown.dom
      · intro g hg; injection hg with hg; subst hg; exact hD _ (Nat.le_refl _)
  unfold Oper.wp execOp
  simp only [hop, resolve, invoke, builtin, Sem.run_bind, Sem.run_pure, Result.andThen_ok, List.map_toArray, List.map_cons, List.map_nil, hs, hxv, hr]
  exact h v' w' h2 h3 h4
end
end Go.SM

namespace Go.Proofs.YthbicfbhghcmkaaGreat
open Go Go.RowKit Go.SM

theorem eltR : Elt Tryz.prog 49 96 4 64 := Elt.mk' (.agg #[.int .i64 0, .slice none 0 0, .slice none 0 0, .bool false]) Tryz.underlying49 (by kernel_rfl) rfl (by decide)

section
variable {w : World} {B r : Nat} {X : XS} {s : DS}
theorem Rep.hit {L : List RSec} (h : Rep L s) {i : Nat} (hi : i < L.length) {n : Int} (hn : L[i].n = n) : latS s n = L[i].lat := by
  rw [h.lat _ (List.getElem_mem hi), hn]
theorem Rep.miss {L : List RSec} (h : Rep L s) {n : Int} (hn : ∀ x ∈ L, x.n ≠ n) : latS s n = zs := by
  obtain ⟨h1, h2⟩ := h.rest n hn
  unfold latS
  rw [h1, h2]
  rfl
theorem latS_len' {L : List RSec} {lv : Value} (h : RefAt w B X r lv L s) {x : RSec} (hx : x ∈ L) : x.lat.length = 512 ∧ x.saf.length = 512 := by
  have h1 := (h.bytes x hx).1.len
  have h2 := (h.bytes x hx).2.len
  simp at h1 h2
  exact ⟨h1, h2⟩

set_option maxHeartbeats 1000000 in
theorem rf_read (h : RefIs w B X r s) (n : Int) :
    Calls Tryz.prog 29 #[.pointer (some ⟨r, 0, none⟩), .int .i64 n] w fun e w' =>
      ∃ v, e = .returned (.tuple #[v, .int .i64 (readT s n).1]) ∧ OwnS w' (Fr w) 5 1 v (readT s n).2.length (u8s (readT s n).2) ∧ Mod none_ w w' := by
  obtain ⟨lv, L, h⟩ := h
  have h0 := h.c0
  have h3 := h.c3
  unfold readT
  cases hd : s.down with
  | true =>
    rw [hd] at h3
    have e1 : mayE s n = 8 := by unfold mayE; rw [hd]; rfl
    rw [e1, if_pos (by omega)]
    clear h hd e1
    go_enter Tryz.func29, Tryz.ntmps29
    go_wp2
    go_ret2
    exact ⟨_, rfl, OwnS.nil_ _ _ _ _, Mod.refl _ _⟩
  | false =>
    rw [hd] at h3
    by_cases hn : n < 0
    · have e1 : mayE s n = 6 := by unfold mayE; rw [hd]; simp [hn]
      have d1 : decide (n < 0) = true := by simpa using hn
      rw [e1, if_pos (by omega)]
      clear h hd e1
      go_enter Tryz.func29, Tryz.ntmps29
      go_wp2
      go_ret2
      exact ⟨_, rfl, OwnS.nil_ _ _ _ _, Mod.refl _ _⟩
    · have d1 : decide (n < 0) = false := by simpa using hn
      by_cases hm : s.n ≤ n
      · have e1 : mayE s n = 6 := by unfold mayE; rw [hd]; simp [hm]
        have d2 : decide (s.n ≤ n) = true := by simpa using hm
        rw [e1, if_pos (by omega)]
        clear h hd e1
        go_enter Tryz.func29, Tryz.ntmps29
        go_wp2
        go_ret2
        exact ⟨_, rfl, OwnS.nil_ _ _ _ _, Mod.refl _ _⟩
      · have e1 : mayE s n = 0 := mayE_up hd ⟨by omega, by omega⟩
        have d2 : decide (s.n ≤ n) = false := by simpa using hm
        rw [e1, if_neg (by omega)]
        have H := Lib.hid h
        clear h hd e1
        go_enter Tryz.func29, Tryz.ntmps29
        go_wp2_with fail
        refine (find_any H.out n).mono ?_
        rintro e w' ⟨hf, rfl⟩
        rcases hf with ⟨i, hi, hin, rfl⟩ | ⟨hno, rfl⟩
        · have HH := Lib.hid (H.out.rep.hit hi hin)
          obtain ⟨g, c, rfl, hgr, _, _, _, q0, q1, q2, q3⟩ := H.out.at_ hi
          have hlen := latS_len' H.out (List.getElem_mem hi)
          have HB := Lib.hid (H.out.bytes _ (List.getElem_mem hi)).1
          have c1 := H.out.c1
          have d3 : decide ((i : Int) < 0) = false := by simp
          have d4 : (i : Int) < (L.length : Int) := by omega
          have HLen := Lib.hid hlen.1
          clear hin q0 q2 q3 hlen
          generalize L[i] = x at *
          go_wp2_with (with_reducible refine at_ (o := ⟨some 27, _, _, _, _, _⟩) ?_)
          refine un (wpList_empty rfl 37 rfl eltB (D := Fr w) (fun _ h => h) ?_)
          intro v3 w3 ho3 hm3
          have HM3 := Lib.hid hm3
          have HO3 := Lib.hid ho3
          have H3 := Lib.hid (H.out.keep hm3 (fun _ e => e.elim))
          have HB3 := Lib.hid (HB.out.keep hm3 (fun _ _ _ e => e))
          have c1' := H3.out.c1
          have q1' := hm3.cell_eq q1 (fun e => e)
          clear ho3 hm3 c1 q1
          go_frame
          go_wp2_with (with_reducible refine at_ (o := ⟨some 36, _, _, _, _, _⟩) ?_)
          refine un (wpList_append rfl _ _ 37 rfl eltB rfl HO3.out rfl HB3.out (u8s_one _) (by omega) (by omega) (Fr.of HM3.out.size) ?_)
          intro v4 w4 ho4 hm4
          have HM4 := Lib.hid (HM3.out.trans hm4 (fun r e hr => by unfold Fr at e; omega))
          have HO4 := Lib.hid ho4
          clear ho4 hm4
          go_frame
          go_wp2_with fail
          go_ret2
          refine ⟨v4, rfl, ?_, HM4.out⟩
          rw [HH.out, HLen.out]
          simpa using HO4.out
        · have HH := Lib.hid (H.out.rep.miss hno)
          clear hno
          go_wp2_with (with_reducible refine at_ (o := ⟨some 26, _, _, _, _, _⟩) ?_)
          refine un (wpList_make rfl 37 _ _ rfl 5 (.int .u8 0) 1 Tryz.underlying37 binfo rfl .i64 .i64 512 512 rfl rfl (Nat.le_refl _) (by omega) (by omega) ?_)
          intro w3 g3 hb3 hm3 hs3
          have HB3 := Lib.hid hb3
          have HM3 := Lib.hid hm3
          clear hb3 hm3
          go_frame
          go_wp2_with fail
          go_ret2
          refine ⟨_, rfl, ?_, HM3.out⟩
          rw [HH.out, zs_length]
          exact OwnS.made (cs := u8s zs) (by rw [HB3.out, u8s, zs, List.map_replicate]; rfl) hs3 512 (by simp [maxLen]) (by rw [length_u8s, zs_length])
end

end Go.Proofs.YthbicfbhghcmkaaGreat
