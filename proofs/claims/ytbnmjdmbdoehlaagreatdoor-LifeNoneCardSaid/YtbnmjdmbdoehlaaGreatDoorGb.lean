/- How much of a statement's value is more than is asked of: of any shape. -/
import Derived.Test.YtbnmjdmbdoehlaaGreatDoorGa
import Derived.Deep.RegionHeld3
import Derived.Deep.Cut
namespace Go.Proofs.YtbnmjdmbdoehlaaGreatDoor
open Go.RowKit
set_option maxRecDepth 100000

set_option maxHeartbeats 4000000 in
theorem great_calls : ∀ (d : Nat) (v : Value) (w : World), VAt w d v → Calls Tryz.prog 12 #[v] w fun e w' => (∃ n : Int, e = .returned (.int .i64 n)) ∧ Ext w w' := by
  intro d
  induction d with
  | zero => intro v w h; exact h.elim
  | succ d ih =>
    intro v w h
    have HV := Lib.hid h
    obtain ⟨k, bo, n, m, s, a, nl, cl, a2, nk, ck, rfl, h1, h2, h3, h4, h5⟩ := h
    have H4 := Lib.hid h4
    have H5 := Lib.hid h5
    have IH := Lib.hid ih
    clear h4 h5 ih
    have k0 := cells_new w #[.int .i64 k, .bool bo, .int .i64 n, .int .i64 m, .string s, .slice a nl cl, .slice a2 nk ck] 25 (i := 0) (v := .int .i64 k) rfl
    have k1 := cells_new w #[.int .i64 k, .bool bo, .int .i64 n, .int .i64 m, .string s, .slice a nl cl, .slice a2 nk ck] 25 (i := 1) (v := .bool bo) rfl
    have k2 := cells_new w #[.int .i64 k, .bool bo, .int .i64 n, .int .i64 m, .string s, .slice a nl cl, .slice a2 nk ck] 25 (i := 2) (v := .int .i64 n) rfl
    have k3 := cells_new w #[.int .i64 k, .bool bo, .int .i64 n, .int .i64 m, .string s, .slice a nl cl, .slice a2 nk ck] 25 (i := 3) (v := .int .i64 m) rfl
    have k4 := cells_new w #[.int .i64 k, .bool bo, .int .i64 n, .int .i64 m, .string s, .slice a nl cl, .slice a2 nk ck] 25 (i := 4) (v := .string s) rfl
    have k5 := cells_new w #[.int .i64 k, .bool bo, .int .i64 n, .int .i64 m, .string s, .slice a nl cl, .slice a2 nk ck] 25 (i := 5) (v := .slice a nl cl) rfl
    have k6 := cells_new w #[.int .i64 k, .bool bo, .int .i64 n, .int .i64 m, .string s, .slice a nl cl, .slice a2 nk ck] 25 (i := 6) (v := .slice a2 nk ck) rfl
    have hx0 : Ext w (w.alloc (.cells #[.int .i64 k, .bool bo, .int .i64 n, .int .i64 m, .string s, .slice a nl cl, .slice a2 nk ck] 25)) := (Ext.refl w).alloc _
    go_enter Tryz.func12, Tryz.ntmps12
    go_upto_region 1 with fail
    have HX0 := Lib.hid hx0
    clear hx0
    generalize World.alloc w _ = w1 at *
    refine wp_region_held_drew (S := fun w' => w'.cell? ⟨w.heap.size, 0, none⟩ = some (.int .i64 k) ∧ w'.cell? ⟨w.heap.size, 1, none⟩ = some (.bool bo) ∧ w'.cell? ⟨w.heap.size, 2, none⟩ = some (.int .i64 n) ∧ w'.cell? ⟨w.heap.size, 3, none⟩ = some (.int .i64 m) ∧ w'.cell? ⟨w.heap.size, 4, none⟩ = some (.string s) ∧ w'.cell? ⟨w.heap.size, 5, none⟩ = some (.slice a nl cl) ∧ w'.cell? ⟨w.heap.size, 6, none⟩ = some (.slice a2 nk ck)) (by kernel_rfl) ⟨k0, k1, k2, k3, k4, k5, k6⟩ fun hS0 => ?_
    refine wpAnyH_take (i := 0) (v := .pointer (some ⟨w.heap.size, 5, none⟩)) rfl (by kernel_rfl) (by kernel_rfl) (by kernel_rfl) (fun _ _ _ h => h) (Or.inl ⟨by rfl, fun w hS => by obtain ⟨s0, s1, s2, s3, s4, s5, s6⟩ := hS; go_simp; try rfl⟩) hS0 ?_
    simp only [Act.put, List.getElem_toArray, List.getElem_cons_zero, List.getElem_cons_succ, List.setIfInBounds_toArray, List.set_cons_zero, List.set_cons_succ]
    refine wpAnyH_take (i := 1) (v := .slice a nl cl) rfl (by kernel_rfl) (by kernel_rfl) (by kernel_rfl) (fun _ _ _ h => h) (Or.inl ⟨by rfl, fun w hS => by obtain ⟨s0, s1, s2, s3, s4, s5, s6⟩ := hS; go_simp; try rfl⟩) hS0 ?_
    simp only [Act.put, List.getElem_toArray, List.getElem_cons_zero, List.getElem_cons_succ, List.setIfInBounds_toArray, List.set_cons_zero, List.set_cons_succ]
    refine wpAnyH_take (i := 2) (v := .int .i64 ((nl : Int))) rfl (by kernel_rfl) (by kernel_rfl) (by kernel_rfl) (fun _ _ _ h => h) (Or.inl ⟨by rfl, fun w hS => by obtain ⟨s0, s1, s2, s3, s4, s5, s6⟩ := hS; go_simp; try rfl⟩) hS0 ?_
    simp only [Act.put, List.getElem_toArray, List.getElem_cons_zero, List.getElem_cons_succ, List.setIfInBounds_toArray, List.set_cons_zero, List.set_cons_succ]
    refine wpAnyH_take (i := 3) (v := .int .i64 (IntKind.i64.wrap ((nl : Int) - 70))) rfl (by kernel_rfl) (by kernel_rfl) (by kernel_rfl) (fun _ _ _ h => h) (Or.inl ⟨by rfl, fun w hS => by obtain ⟨s0, s1, s2, s3, s4, s5, s6⟩ := hS; go_simp; try rfl⟩) hS0 ?_
    simp only [Act.put, List.getElem_toArray, List.getElem_cons_zero, List.getElem_cons_succ, List.setIfInBounds_toArray, List.set_cons_zero, List.set_cons_succ]
    refine wpAnyH_take (i := 4) (v := .int .i64 (max (IntKind.i64.wrap ((nl : Int) - 70)) 0)) rfl (by kernel_rfl) (by kernel_rfl) (by kernel_rfl) (fun _ _ _ h => h) (Or.inl ⟨by rfl, fun w hS => by obtain ⟨s0, s1, s2, s3, s4, s5, s6⟩ := hS; go_simp; try rfl⟩) hS0 ?_
    simp only [Act.put, List.getElem_toArray, List.getElem_cons_zero, List.getElem_cons_succ, List.setIfInBounds_toArray, List.set_cons_zero, List.set_cons_succ]
    refine wpAnyH_take (i := 5) (v := .pointer (some ⟨w.heap.size, 6, none⟩)) rfl (by kernel_rfl) (by kernel_rfl) (by kernel_rfl) (fun _ _ _ h => h) (Or.inl ⟨by rfl, fun w hS => by obtain ⟨s0, s1, s2, s3, s4, s5, s6⟩ := hS; go_simp; try rfl⟩) hS0 ?_
    simp only [Act.put, List.getElem_toArray, List.getElem_cons_zero, List.getElem_cons_succ, List.setIfInBounds_toArray, List.set_cons_zero, List.set_cons_succ]
    refine wpAnyH_take (i := 6) (v := .slice a2 nk ck) rfl (by kernel_rfl) (by kernel_rfl) (by kernel_rfl) (fun _ _ _ h => h) (Or.inl ⟨by rfl, fun w hS => by obtain ⟨s0, s1, s2, s3, s4, s5, s6⟩ := hS; go_simp; try rfl⟩) hS0 ?_
    simp only [Act.put, List.getElem_toArray, List.getElem_cons_zero, List.getElem_cons_succ, List.setIfInBounds_toArray, List.set_cons_zero, List.set_cons_succ]
    refine wpAnyH_take (i := 7) (v := .int .i64 ((nk : Int))) rfl (by kernel_rfl) (by kernel_rfl) (by kernel_rfl) (fun _ _ _ h => h) (Or.inl ⟨by rfl, fun w hS => by obtain ⟨s0, s1, s2, s3, s4, s5, s6⟩ := hS; go_simp; try rfl⟩) hS0 ?_
    simp only [Act.put, List.getElem_toArray, List.getElem_cons_zero, List.getElem_cons_succ, List.setIfInBounds_toArray, List.set_cons_zero, List.set_cons_succ]
    refine wpAnyH_take (i := 8) (v := .int .i64 (IntKind.i64.wrap ((nk : Int) - 70))) rfl (by kernel_rfl) (by kernel_rfl) (by kernel_rfl) (fun _ _ _ h => h) (Or.inl ⟨by rfl, fun w hS => by obtain ⟨s0, s1, s2, s3, s4, s5, s6⟩ := hS; go_simp; try rfl⟩) hS0 ?_
    simp only [Act.put, List.getElem_toArray, List.getElem_cons_zero, List.getElem_cons_succ, List.setIfInBounds_toArray, List.set_cons_zero, List.set_cons_succ]
    refine wpAnyH_take (i := 9) (v := .int .i64 (max (IntKind.i64.wrap ((nk : Int) - 70)) 0)) rfl (by kernel_rfl) (by kernel_rfl) (by kernel_rfl) (fun _ _ _ h => h) (Or.inl ⟨by rfl, fun w hS => by obtain ⟨s0, s1, s2, s3, s4, s5, s6⟩ := hS; go_simp; try rfl⟩) hS0 ?_
    simp only [Act.put, List.getElem_toArray, List.getElem_cons_zero, List.getElem_cons_succ, List.setIfInBounds_toArray, List.set_cons_zero, List.set_cons_succ]
    refine wpAnyH_take (i := 10) (v := .int .i64 (IntKind.i64.wrap ((max (IntKind.i64.wrap ((nl : Int) - 70)) 0) + (max (IntKind.i64.wrap ((nk : Int) - 70)) 0)))) rfl (by kernel_rfl) (by kernel_rfl) (by kernel_rfl) (fun _ _ _ h => h) (Or.inl ⟨by rfl, fun w hS => by obtain ⟨s0, s1, s2, s3, s4, s5, s6⟩ := hS; go_simp; try rfl⟩) hS0 ?_
    simp only [Act.put, List.getElem_toArray, List.getElem_cons_zero, List.getElem_cons_succ, List.setIfInBounds_toArray, List.set_cons_zero, List.set_cons_succ]
    refine wpAnyH_take (i := 11) (v := .pointer (some ⟨w.heap.size, 4, none⟩)) rfl (by kernel_rfl) (by kernel_rfl) (by kernel_rfl) (fun _ _ _ h => h) (Or.inl ⟨by rfl, fun w hS => by obtain ⟨s0, s1, s2, s3, s4, s5, s6⟩ := hS; go_simp; try rfl⟩) hS0 ?_
    simp only [Act.put, List.getElem_toArray, List.getElem_cons_zero, List.getElem_cons_succ, List.setIfInBounds_toArray, List.set_cons_zero, List.set_cons_succ]
    refine wpAnyH_take (i := 12) (v := .string s) rfl (by kernel_rfl) (by kernel_rfl) (by kernel_rfl) (fun _ _ _ h => h) (Or.inl ⟨by rfl, fun w hS => by obtain ⟨s0, s1, s2, s3, s4, s5, s6⟩ := hS; go_simp; try rfl⟩) hS0 ?_
    simp only [Act.put, List.getElem_toArray, List.getElem_cons_zero, List.getElem_cons_succ, List.setIfInBounds_toArray, List.set_cons_zero, List.set_cons_succ]
    refine wpAnyH_take (i := 13) (v := .int .i64 ((s.size : Int))) rfl (by kernel_rfl) (by kernel_rfl) (by kernel_rfl) (fun _ _ _ h => h) (Or.inl ⟨by rfl, fun w hS => by obtain ⟨s0, s1, s2, s3, s4, s5, s6⟩ := hS; go_simp; try rfl⟩) hS0 ?_
    simp only [Act.put, List.getElem_toArray, List.getElem_cons_zero, List.getElem_cons_succ, List.setIfInBounds_toArray, List.set_cons_zero, List.set_cons_succ]
    refine wpAnyH_take (i := 14) (v := .int .i64 (IntKind.i64.wrap ((s.size : Int) - 300))) rfl (by kernel_rfl) (by kernel_rfl) (by kernel_rfl) (fun _ _ _ h => h) (Or.inl ⟨by rfl, fun w hS => by obtain ⟨s0, s1, s2, s3, s4, s5, s6⟩ := hS; go_simp; try rfl⟩) hS0 ?_
    simp only [Act.put, List.getElem_toArray, List.getElem_cons_zero, List.getElem_cons_succ, List.setIfInBounds_toArray, List.set_cons_zero, List.set_cons_succ]
    refine wpAnyH_take (i := 15) (v := .int .i64 (max (IntKind.i64.wrap ((s.size : Int) - 300)) 0)) rfl (by kernel_rfl) (by kernel_rfl) (by kernel_rfl) (fun _ _ _ h => h) (Or.inl ⟨by rfl, fun w hS => by obtain ⟨s0, s1, s2, s3, s4, s5, s6⟩ := hS; go_simp; try rfl⟩) hS0 ?_
    simp only [Act.put, List.getElem_toArray, List.getElem_cons_zero, List.getElem_cons_succ, List.setIfInBounds_toArray, List.set_cons_zero, List.set_cons_succ]
    refine wpAnyH_take (i := 16) (v := .int .i64 (IntKind.i64.wrap ((IntKind.i64.wrap ((max (IntKind.i64.wrap ((nl : Int) - 70)) 0) + (max (IntKind.i64.wrap ((nk : Int) - 70)) 0))) + (max (IntKind.i64.wrap ((s.size : Int) - 300)) 0)))) rfl (by kernel_rfl) (by kernel_rfl) (by kernel_rfl) (fun _ _ _ h => h) (Or.inl ⟨by rfl, fun w hS => by obtain ⟨s0, s1, s2, s3, s4, s5, s6⟩ := hS; go_simp; try rfl⟩) hS0 ?_
    simp only [Act.put, List.getElem_toArray, List.getElem_cons_zero, List.getElem_cons_succ, List.setIfInBounds_toArray, List.set_cons_zero, List.set_cons_succ]
    refine wpAnyH_take (i := 17) (v := .agg #[.int .i64 k, .bool bo, .int .i64 n, .int .i64 m, .string s, .slice a nl cl, .slice a2 nk ck]) rfl (by kernel_rfl) (by kernel_rfl) (by kernel_rfl) (fun _ _ _ h => h) (Or.inl ⟨by rfl, fun w hS => by obtain ⟨s0, s1, s2, s3, s4, s5, s6⟩ := hS; go_simp; try rfl⟩) hS0 ?_
    simp only [Act.put, List.getElem_toArray, List.getElem_cons_zero, List.getElem_cons_succ, List.setIfInBounds_toArray, List.set_cons_zero, List.set_cons_succ]
    refine wpAnyH_take (i := 22) (v := .agg #[.int .i64 k, .bool bo, .int .i64 n, .int .i64 m, .string s, .slice a nl cl, .slice a2 nk ck]) rfl (by kernel_rfl) (by kernel_rfl) (by kernel_rfl) (fun _ _ _ h => h) (Or.inl ⟨by rfl, fun w hS => by obtain ⟨s0, s1, s2, s3, s4, s5, s6⟩ := hS; go_simp; try rfl⟩) hS0 ?_
    simp only [Act.put, List.getElem_toArray, List.getElem_cons_zero, List.getElem_cons_succ, List.setIfInBounds_toArray, List.set_cons_zero, List.set_cons_succ]
    refine wpAnyH_ready (rs := [18]) (by kernel_rfl) (by simp) (AllReadyH.cons rfl (fun K hK => ?_) AllReadyH.nil)
    rw [if_pos (by rfl)]
    go_simp
    refine (size_calls (d + 1) _ _ (VAt.ext HX0.out.drew _ _ HV.out)).mono ?_
    rintro e w2 ⟨⟨q2, rfl⟩, hx2⟩
    have hS2 : w2.cell? ⟨w.heap.size, 0, none⟩ = some (.int .i64 k) ∧ w2.cell? ⟨w.heap.size, 1, none⟩ = some (.bool bo) ∧ w2.cell? ⟨w.heap.size, 2, none⟩ = some (.int .i64 n) ∧ w2.cell? ⟨w.heap.size, 3, none⟩ = some (.int .i64 m) ∧ w2.cell? ⟨w.heap.size, 4, none⟩ = some (.string s) ∧ w2.cell? ⟨w.heap.size, 5, none⟩ = some (.slice a nl cl) ∧ w2.cell? ⟨w.heap.size, 6, none⟩ = some (.slice a2 nk ck) := ⟨hx2.cell_some hS0.1, hx2.cell_some hS0.2.1, hx2.cell_some hS0.2.2.1, hx2.cell_some hS0.2.2.2.1, hx2.cell_some hS0.2.2.2.2.1, hx2.cell_some hS0.2.2.2.2.2.1, hx2.cell_some hS0.2.2.2.2.2.2⟩
    refine hK.out _ _ hS2 fun _ => ?_
    clear hK K
    try simp only [Act.put, List.getElem_toArray, List.getElem_cons_zero, List.getElem_cons_succ, List.setIfInBounds_toArray, List.set_cons_zero, List.set_cons_succ]
    refine wpAnyH_take (i := 19) (v := .int .i64 (IntKind.i64.wrap (q2 - 200))) rfl (by kernel_rfl) (by kernel_rfl) (by kernel_rfl) (fun _ _ _ h => h) (Or.inl ⟨by rfl, fun w hS => by obtain ⟨s0, s1, s2, s3, s4, s5, s6⟩ := hS; go_simp; try rfl⟩) hS2 ?_
    simp only [Act.put, List.getElem_toArray, List.getElem_cons_zero, List.getElem_cons_succ, List.setIfInBounds_toArray, List.set_cons_zero, List.set_cons_succ]
    refine wpAnyH_take (i := 20) (v := .int .i64 (max (IntKind.i64.wrap (q2 - 200)) 0)) rfl (by kernel_rfl) (by kernel_rfl) (by kernel_rfl) (fun _ _ _ h => h) (Or.inl ⟨by rfl, fun w hS => by obtain ⟨s0, s1, s2, s3, s4, s5, s6⟩ := hS; go_simp; try rfl⟩) hS2 ?_
    simp only [Act.put, List.getElem_toArray, List.getElem_cons_zero, List.getElem_cons_succ, List.setIfInBounds_toArray, List.set_cons_zero, List.set_cons_succ]
    refine wpAnyH_take (i := 21) (v := .int .i64 (IntKind.i64.wrap ((IntKind.i64.wrap ((IntKind.i64.wrap ((max (IntKind.i64.wrap ((nl : Int) - 70)) 0) + (max (IntKind.i64.wrap ((nk : Int) - 70)) 0))) + (max (IntKind.i64.wrap ((s.size : Int) - 300)) 0))) + (max (IntKind.i64.wrap (q2 - 200)) 0)))) rfl (by kernel_rfl) (by kernel_rfl) (by kernel_rfl) (fun _ _ _ h => h) (Or.inl ⟨by rfl, fun w hS => by obtain ⟨s0, s1, s2, s3, s4, s5, s6⟩ := hS; go_simp; try rfl⟩) hS2 ?_
    simp only [Act.put, List.getElem_toArray, List.getElem_cons_zero, List.getElem_cons_succ, List.setIfInBounds_toArray, List.set_cons_zero, List.set_cons_succ]
    refine wpAnyH_ready (rs := [23]) (by kernel_rfl) (by simp) (AllReadyH.cons rfl (fun K hK => ?_) AllReadyH.nil)
    rw [if_pos (by rfl)]
    go_simp
    refine (deep_calls (d + 1) _ _ (VAt.ext (HX0.out.drew.trans hx2) _ _ HV.out)).mono ?_
    rintro e w3 ⟨⟨q3, rfl⟩, hx3⟩
    have hS3 : w3.cell? ⟨w.heap.size, 0, none⟩ = some (.int .i64 k) ∧ w3.cell? ⟨w.heap.size, 1, none⟩ = some (.bool bo) ∧ w3.cell? ⟨w.heap.size, 2, none⟩ = some (.int .i64 n) ∧ w3.cell? ⟨w.heap.size, 3, none⟩ = some (.int .i64 m) ∧ w3.cell? ⟨w.heap.size, 4, none⟩ = some (.string s) ∧ w3.cell? ⟨w.heap.size, 5, none⟩ = some (.slice a nl cl) ∧ w3.cell? ⟨w.heap.size, 6, none⟩ = some (.slice a2 nk ck) := ⟨hx3.cell_some hS2.1, hx3.cell_some hS2.2.1, hx3.cell_some hS2.2.2.1, hx3.cell_some hS2.2.2.2.1, hx3.cell_some hS2.2.2.2.2.1, hx3.cell_some hS2.2.2.2.2.2.1, hx3.cell_some hS2.2.2.2.2.2.2⟩
    refine hK.out _ _ hS3 fun _ => ?_
    clear hK K
    try simp only [Act.put, List.getElem_toArray, List.getElem_cons_zero, List.getElem_cons_succ, List.setIfInBounds_toArray, List.set_cons_zero, List.set_cons_succ]
    refine wpAnyH_take (i := 24) (v := .int .i64 (IntKind.i64.wrap (q3 - 12))) rfl (by kernel_rfl) (by kernel_rfl) (by kernel_rfl) (fun _ _ _ h => h) (Or.inl ⟨by rfl, fun w hS => by obtain ⟨s0, s1, s2, s3, s4, s5, s6⟩ := hS; go_simp; try rfl⟩) hS3 ?_
    simp only [Act.put, List.getElem_toArray, List.getElem_cons_zero, List.getElem_cons_succ, List.setIfInBounds_toArray, List.set_cons_zero, List.set_cons_succ]
    refine wpAnyH_take (i := 25) (v := .int .i64 (max (IntKind.i64.wrap (q3 - 12)) 0)) rfl (by kernel_rfl) (by kernel_rfl) (by kernel_rfl) (fun _ _ _ h => h) (Or.inl ⟨by rfl, fun w hS => by obtain ⟨s0, s1, s2, s3, s4, s5, s6⟩ := hS; go_simp; try rfl⟩) hS3 ?_
    simp only [Act.put, List.getElem_toArray, List.getElem_cons_zero, List.getElem_cons_succ, List.setIfInBounds_toArray, List.set_cons_zero, List.set_cons_succ]
    refine wpAnyH_take (i := 26) (v := .int .i64 (IntKind.i64.wrap ((IntKind.i64.wrap ((IntKind.i64.wrap ((IntKind.i64.wrap ((max (IntKind.i64.wrap ((nl : Int) - 70)) 0) + (max (IntKind.i64.wrap ((nk : Int) - 70)) 0))) + (max (IntKind.i64.wrap ((s.size : Int) - 300)) 0))) + (max (IntKind.i64.wrap (q2 - 200)) 0))) + (max (IntKind.i64.wrap (q3 - 12)) 0)))) rfl (by kernel_rfl) (by kernel_rfl) (by kernel_rfl) (fun _ _ _ h => h) (Or.inl ⟨by rfl, fun w hS => by obtain ⟨s0, s1, s2, s3, s4, s5, s6⟩ := hS; go_simp; try rfl⟩) hS3 ?_
    simp only [Act.put, List.getElem_toArray, List.getElem_cons_zero, List.getElem_cons_succ, List.setIfInBounds_toArray, List.set_cons_zero, List.set_cons_succ]
    refine wpAnyH_take (i := 27) (v := .int .i64 (IntKind.i64.wrap ((IntKind.i64.wrap ((IntKind.i64.wrap ((IntKind.i64.wrap ((max (IntKind.i64.wrap ((nl : Int) - 70)) 0) + (max (IntKind.i64.wrap ((nk : Int) - 70)) 0))) + (max (IntKind.i64.wrap ((s.size : Int) - 300)) 0))) + (max (IntKind.i64.wrap (q2 - 200)) 0))) + (max (IntKind.i64.wrap (q3 - 12)) 0)))) rfl (by kernel_rfl) (by kernel_rfl) (by kernel_rfl) (fun _ _ _ h => h) (Or.inl ⟨by rfl, fun w hS => by obtain ⟨s0, s1, s2, s3, s4, s5, s6⟩ := hS; go_simp; try rfl⟩) hS3 ?_
    simp only [Act.put, List.getElem_toArray, List.getElem_cons_zero, List.getElem_cons_succ, List.setIfInBounds_toArray, List.set_cons_zero, List.set_cons_succ]
    refine wpAnyH_done (by kernel_rfl) ?_ _
    obtain ⟨s0, s1, s2, s3, s4, s5, s6⟩ := hS3
    have HX3 := Lib.hid ((HX0.out.drew.trans hx2).trans hx3)
    clear hS0 hS2 hx2 hx3 HX0 k0 k1 k2 k3 k4 k5 k6
    generalize IntKind.i64.wrap ((IntKind.i64.wrap ((IntKind.i64.wrap ((IntKind.i64.wrap ((max (IntKind.i64.wrap ((nl : Int) - 70)) 0) + (max (IntKind.i64.wrap ((nk : Int) - 70)) 0))) + (max (IntKind.i64.wrap ((s.size : Int) - 300)) 0))) + (max (IntKind.i64.wrap (q2 - 200)) 0))) + (max (IntKind.i64.wrap (q3 - 12)) 0)) = q0
    go_wp2
    have hM : maxLen ≤ 9223372036854775807 := by decide
    go_loopw [3, 4] (fun nn i wr => (∃ q : Int, nn = .int .i64 q) ∧ (∃ j : Nat, j ≤ nk ∧ i = .int .i64 j) ∧ Ext w3 wr) (fun _ i _ => nk - (intOf i).toNat)
    case atStart => exact ⟨⟨_, rfl⟩, ⟨0, Nat.zero_le _, rfl⟩, Ext.refl _⟩
    case round =>
      obtain ⟨⟨q, rfl⟩, ⟨j, hj, rfl⟩, hx4⟩ := hrel
      have T5 := Lib.hid s5
      replace s5 := hx4.cell_some s5
      replace s6 := hx4.cell_some s6
      clear s0 s1 s2 s3 s4
      have HX4 := Lib.hid (HX3.out.trans hx4)
      have HY4 := Lib.hid hx4
      clear hx4
      by_cases hlt : j < nk ∧ j < 80
      · obtain ⟨hlt1, hlt2⟩ := hlt
        obtain ⟨b, off, rfl, hc⟩ := H5.out (by omega)
        obtain ⟨t, c0, ht⟩ := hc j hlt1
        have d0 := HX4.out.cell_some c0
        clear hc c0
        go_wp2
        go_roundw
        case rel => exact ⟨⟨_, rfl⟩, ⟨j + 1, by omega, by simp⟩, HY4.out⟩
        case measure => simp [intOf]; omega
      · rcases (by omega : ¬ j < nk ∨ (j < nk ∧ ¬ j < 80)) with hlt1 | ⟨hlt1, hlt2⟩
        · skip
          go_wp2
          go_loopw [3, 5] (fun nn i wr' => (∃ q : Int, nn = .int .i64 q) ∧ (∃ j : Nat, j ≤ nl ∧ i = .int .i64 j) ∧ Ext w3 wr') (fun _ i _ => nl - (intOf i).toNat)
          case atStart => exact ⟨⟨_, rfl⟩, ⟨0, Nat.zero_le _, rfl⟩, HY4.out⟩
          case round =>
            obtain ⟨⟨q', rfl⟩, ⟨j', hj', rfl⟩, hx5⟩ := hrel
            clear s5 s6
            have u5 := hx5.cell_some T5.out
            have HX5 := Lib.hid (HX3.out.trans hx5)
            have HY5 := Lib.hid hx5
            clear hx5
            by_cases hl : j' < nl
            · by_cases hq : q' = 0
              · subst hq
                obtain ⟨b, off, rfl, hc⟩ := H4.out (by omega)
                obtain ⟨x0, x1, x2, x3, x4, x5, x6, c0, c1, c2, c3, c4, c5, c6, hv⟩ := hc j' hl
                have d0 := HX5.out.cell_some c0
                have d1 := HX5.out.cell_some c1
                have d2 := HX5.out.cell_some c2
                have d3 := HX5.out.cell_some c3
                have d4 := HX5.out.cell_some c4
                have d5 := HX5.out.cell_some c5
                have d6 := HX5.out.cell_some c6
                have HV5 := Lib.hid (VAt.ext HX5.out _ _ hv)
                clear hc hv c0 c1 c2 c3 c4 c5 c6
                go_wp2_with (go_at_call 12; refine (IH.out _ _ HV5.out).mono ?_; rintro e w6 ⟨⟨q6, rfl⟩, hx6⟩)
                go_roundw
                case rel => exact ⟨⟨_, rfl⟩, ⟨j' + 1, by omega, by simp⟩, HY5.out.trans hx6⟩
                case measure => simp [intOf]; omega
              · go_wp2
                go_ret
                exact ⟨⟨_, rfl⟩, HX5.out⟩
            · obtain rfl : j' = nl := by omega
              go_wp2
              go_ret
              exact ⟨⟨_, rfl⟩, HX5.out⟩
        · skip
          go_wp2
          go_loopw [3, 5] (fun nn i wr' => (∃ q : Int, nn = .int .i64 q) ∧ (∃ j : Nat, j ≤ nl ∧ i = .int .i64 j) ∧ Ext w3 wr') (fun _ i _ => nl - (intOf i).toNat)
          case atStart => exact ⟨⟨_, rfl⟩, ⟨0, Nat.zero_le _, rfl⟩, HY4.out⟩
          case round =>
            obtain ⟨⟨q', rfl⟩, ⟨j', hj', rfl⟩, hx5⟩ := hrel
            clear s5 s6
            have u5 := hx5.cell_some T5.out
            have HX5 := Lib.hid (HX3.out.trans hx5)
            have HY5 := Lib.hid hx5
            clear hx5
            by_cases hl : j' < nl
            · by_cases hq : q' = 0
              · subst hq
                obtain ⟨b, off, rfl, hc⟩ := H4.out (by omega)
                obtain ⟨x0, x1, x2, x3, x4, x5, x6, c0, c1, c2, c3, c4, c5, c6, hv⟩ := hc j' hl
                have d0 := HX5.out.cell_some c0
                have d1 := HX5.out.cell_some c1
                have d2 := HX5.out.cell_some c2
                have d3 := HX5.out.cell_some c3
                have d4 := HX5.out.cell_some c4
                have d5 := HX5.out.cell_some c5
                have d6 := HX5.out.cell_some c6
                have HV5 := Lib.hid (VAt.ext HX5.out _ _ hv)
                clear hc hv c0 c1 c2 c3 c4 c5 c6
                go_wp2_with (go_at_call 12; refine (IH.out _ _ HV5.out).mono ?_; rintro e w6 ⟨⟨q6, rfl⟩, hx6⟩)
                go_roundw
                case rel => exact ⟨⟨_, rfl⟩, ⟨j' + 1, by omega, by simp⟩, HY5.out.trans hx6⟩
                case measure => simp [intOf]; omega
              · go_wp2
                go_ret
                exact ⟨⟨_, rfl⟩, HX5.out⟩
            · obtain rfl : j' = nl := by omega
              go_wp2
              go_ret
              exact ⟨⟨_, rfl⟩, HX5.out⟩
end Go.Proofs.YtbnmjdmbdoehlaaGreatDoor
