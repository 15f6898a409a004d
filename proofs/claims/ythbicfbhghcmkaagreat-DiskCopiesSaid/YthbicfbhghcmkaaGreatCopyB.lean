/-
  The document's disk: Copy.
-/
import Derived.Test.YthbicfbhghcmkaaGreatRefD
namespace Go.Proofs.YthbicfbhghcmkaaGreat
open Go Go.RowKit Go.SM

theorem run_zeroD (w : World) : (zeroValue 51).run Tryz.prog w = .ok (.agg #[.int .i64 0, .slice none 0 0, .int .i64 0, .bool false]) w := by
  have h : (Tryz.prog.info? 51).bind (·.zero) = some (.agg #[.int .i64 0, .slice none 0 0, .int .i64 0, .bool false]) := by kernel_rfl
  obtain ⟨i, hi, hz⟩ := Option.bind_eq_some_iff.1 h
  simp [zeroValue, typeInfo, hi, hz]
theorem rdk_size : (Tryz.prog.info? 51).map (·.size) = some 4 := by kernel_rfl

theorem rcells_one {w : World} {X : XS} {r : Nat} {lv : Value} : ∀ {L : List RSec}, (∀ x ∈ L, Rd w (Byt X r lv) 1 x.lv 512 (u8s x.lat) ∧ Rd w (Byt X r lv) 1 x.sv 512 (u8s x.saf)) → ∀ u ∈ rcells L, u.oneCell' = true
  | [], _, u, hu => by simp [rcells] at hu
  | x :: l, h, u, hu => by
    obtain ⟨h1, h2⟩ := h x (by simp)
    obtain ⟨A, c, e1⟩ := h1.slice
    obtain ⟨A', c', e2⟩ := h2.slice
    simp only [rcells, List.mem_cons] at hu
    rcases hu with rfl | rfl | rfl | rfl | hu
    · rfl
    · rw [e1]; rfl
    · rw [e2]; rfl
    · rfl
    · exact rcells_one (fun y hy => h y (by simp [hy])) u hu

def RCopied (w : World) (L : List RSec) (s : DS) (e : Ending) (w' : World) : Prop :=
  ∃ r2 lv2, e = .returned (.pointer (some ⟨r2, 0, none⟩)) ∧ w'.heap[r2]? = some (.cells #[.int .i64 s.n, lv2, .int .i64 s.armed, .bool s.down] 51 (0, 0)) ∧
    OwnS w' (fun k => w.heap.size ≤ k ∧ k ≠ r2) 96 4 lv2 L.length (rcells L) ∧ Mod none_ w w' ∧ w.heap.size ≤ r2

set_option maxHeartbeats 2000000 in
set_option maxRecDepth 100000 in
theorem rcopy_any {w : World} {B r : Nat} {X : XS} {lv : Value} {L : List RSec} {s : DS} (h : RefAt w B X r lv L s) :
    Calls Tryz.prog 10 #[.pointer (some ⟨r, 0, none⟩)] w (RCopied w L s) := by
  have hone := rcells_one h.bytes
  have hfew := h.rep.few h.n1.2
  obtain ⟨A, c, hlv⟩ := h.lvf
  have H := Lib.hid h
  have HO := Lib.hid hone
  have HLV := Lib.hid (show lv.oneCell' = true by rw [hlv]; rfl)
  clear h hone hlv
  go_enter Tryz.func10, Tryz.ntmps10
  go_wp2_with (with_reducible refine at_ (o := ⟨some 6, .load _ _, _, _, _, _⟩) ?_)
  refine un (wpList_load rfl 51 _ rfl r 0 rfl [.int .i64 s.n, lv, .int .i64 s.armed, .bool s.down] _ Tryz.underlying51 rfl (block_cells H.out.cells) (by rw [rdk_size]; rfl) ?_)
  go_frame
  go_wp2_with (with_reducible refine at_ (o := ⟨some 3, .alloc _, _, _, _, _⟩) ?_)
  refine un (wpList_alloc rfl 51 rfl _ (run_zeroD _) ?_)
  intro w1 r2 hb1 hm1 hs1
  have HB1 := Lib.hid hb1
  have HM1 := Lib.hid hm1
  clear hb1 hm1
  go_frame
  go_wp2_with (with_reducible refine at_ (o := ⟨none, .store _ _ _, _, _, _, _⟩) ?_)
  refine un (wpList_store rfl 51 _ _ rfl r2 rfl [.int .i64 s.n, lv, .int .i64 s.armed, .bool s.down] rfl _ _ HB1.out rfl (by rw [rdk_size]; rfl) (by intro u hu; simp only [List.mem_cons, List.not_mem_nil, or_false] at hu; rcases hu with rfl | rfl | rfl | rfl; rfl; exact HLV.out; rfl; rfl) ?_)
  intro w2 hb2 hm2
  have hm1' := HM1.out.size
  have hm2' := hm2.size
  have HM2 := Lib.hid (show Mod none_ w w2 from HM1.out.trans hm2 (fun k e hk => by omega))
  have HB2 := Lib.hid hb2
  have H2 := Lib.hid (H.out.keep HM2.out (fun _ e => e.elim))
  have z2 : r2 < w2.heap.size := blk_lt hb2
  have q1 := H2.out.c1
  clear hb2 hm2 HM1 HB1 H
  go_frame
  go_wp2_with (with_reducible refine at_ (o := ⟨some 7, _, _, _, _, _⟩) ?_)
  refine un (wpList_empty rfl 49 rfl eltR (D := fun k => w2.heap.size ≤ k ∧ k ≠ r2) (fun k hk => ⟨hk, by omega⟩) ?_)
  intro v3 w3 ho3 hm3
  have HM3 := Lib.hid (HM2.out.trans' hm3)
  have HB3 := Lib.hid (hm3.get HB2.out (fun e => e))
  have H3 := Lib.hid (H2.out.keep hm3 (fun _ e => e.elim))
  have HO3 := Lib.hid ho3
  have z3 := hm3.size
  have q1' := H3.out.c1
  clear hm3 ho3 q1 HM2 HB2 H2
  go_frame
  go_wp2_with (with_reducible refine at_ (o := ⟨some 12, _, _, _, _, _⟩) ?_)
  refine un (wpList_append rfl _ _ 49 rfl eltR rfl HO3.out rfl H3.out.row.rd HO.out (by omega) (by omega) (fun k hk => ⟨by omega, by omega⟩) ?_)
  intro v4 w4 ho4 hm4
  have HM4 := Lib.hid (HM3.out.trans hm4 (fun k e hk => by have := HM3.out.size; have := e.1; omega))
  have HB4 := Lib.hid (hm4.get HB3.out (fun e => e.2 rfl))
  have HO4 := Lib.hid (show OwnS w4 (fun k => w2.heap.size ≤ k ∧ k ≠ r2) 96 4 v4 L.length (rcells L) by
    rw [Nat.zero_add, List.nil_append] at ho4
    exact ho4)
  obtain ⟨A4, c4, rfl⟩ := HO4.out.rd.slice
  have p1 : w4.cell? ⟨r2, 1, none⟩ = some lv := by rw [cell_of_row w4 r2 1 _ _ _ HB4.out]; rfl
  have f1 : w4.frozen? ⟨r2, 1, none⟩ = false := frozen_of_row w4 r2 1 _ _ HB4.out
  clear hm4 ho4 q1' HM3 HB3 H3 HO3
  go_frame
  go_wp2_with fail
  go_ret
  have h5 := heap_setCell_same w4 r2 1 _ _ (.slice A4 L.length c4) HB4.out
  have hm5 : Mod (· = r2) w4 (w4.setCell ⟨r2, 1, none⟩ (.slice A4 L.length c4)) := (Mod.refl (· = r2) w4).setCell (p := ⟨r2, 1, none⟩) (.inl rfl) _
  exact ⟨r2, _, rfl, h5, (HO4.out.keep hm5 (fun k hk _ e => hk.2 e)).mono (fun k hk _ => ⟨by have := hm1'; omega, hk.2⟩), HM4.out.trans hm5 (fun k e hk => by omega), hs1⟩

end Go.Proofs.YthbicfbhghcmkaaGreat
