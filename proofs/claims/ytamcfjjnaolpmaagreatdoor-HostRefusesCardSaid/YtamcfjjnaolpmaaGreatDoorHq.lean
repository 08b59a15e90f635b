/- Feeding a provider that is Starting; the copy of a host's store. -/
import Derived.Test.YtamcfjjnaolpmaaGreatDoorHz
import Derived.Test.YtamcfjjnaolpmaaGreatDoorHy
namespace Go.Proofs.YtamcfjjnaolpmaaGreatDoor
open Go.RowKit
set_option maxRecDepth 100000

theorem store_calls {w : World} {h m s sm n : Nat} {D : DataW Value} {now : Int} (H : HostAt w h m s sm n D now) :
    Calls Tryz.prog 14 #[.pointer (some ⟨h, 0, none⟩)] w fun e w' => ∃ g gm, e = .returned (.pointer (some ⟨g, 0, none⟩)) ∧ StoreAt w' g gm ∧ Ext w w' := by
  obtain ⟨c0, c1, c2, f2, hh⟩ := H.facts
  have HC := Lib.hid (copy0 (⟨H.store, H.smap⟩ : StoreAt w s sm))
  clear H
  go_enter Tryz.func14, Tryz.ntmps14
  go_wp2_with (go_at_call 46; refine HC.out.mono ?_; rintro e w2 ⟨g, gm, rfl, hS, hx⟩)
  go_ret
  exact ⟨g, gm, rfl, hS, hx⟩

theorem keepFeed {w : World} {k : Nat} {l t : Int} (h : KeepAt w k l t 1) (n : Int) (a : Option Addr) (b c : Nat) : Calls Tryz.prog 36 #[.pointer (some ⟨k, 0, none⟩), .int .i64 n, .slice a b c] w fun e w' => e = .returned (.tuple #[.slice none 0 0, .int .i64 11]) ∧ Ext w w' := by
  have hx1 : Ext w (w.alloc (.cells #[.int .i64 2, .int .i64 3] 3)) := (Ext.refl w).alloc _
  have h1 := Lib.hid (h.ext hx1)
  go_enter Tryz.func36, Tryz.ntmps36
  go_wp2_with (go_at_call 56; refine (is_calls (l := [2, 3]) h1.out (slc_new rfl (by simp) rfl rfl)).mono ?_; rintro e w2 ⟨rfl, rfl⟩)
  go_ret2
  exact ⟨rfl, hx1⟩

/-- Too long a chunk. -/
theorem feed1_long {w : World} {bc bh : Nat} {a : Option Addr} {k c : Nat} (hk : (8192 : Int) < k) (hc : w.cell? ⟨bc, 0, none⟩ = some (.slice a k c)) (r : Value) :
    Calls Tryz.prog 35 #[r, .pointer (some ⟨bc, 0, none⟩), .pointer (some ⟨bh, 0, none⟩)] w fun e w' => e = .returned (.tuple #[.slice none 0 0, .int .i64 3]) ∧ w' = w := by
  go_enter Tryz.func35, Tryz.ntmps35
  go_wp2
  go_ret2
  exact ⟨rfl, rfl⟩

set_option maxHeartbeats 2000000 in
/-- At a provider that is Starting. -/
theorem feed1_state {w : World} {bc bh r p k h : Nat} {a : Option Addr} {m c : Nat} {now l t : Int} (hk : ¬ (8192 : Int) < m) (hS : w.cell? ⟨r, 0, none⟩ = some (.pointer (some ⟨p, 0, none⟩)) ∧ w.cell? ⟨p, 0, none⟩ = some (.pointer (some ⟨k, 0, none⟩)) ∧ w.cell? ⟨bh, 0, none⟩ = some (.pointer (some ⟨h, 0, none⟩)) ∧ w.cell? ⟨h, 2, none⟩ = some (.int .i64 now) ∧ w.cell? ⟨bc, 0, none⟩ = some (.slice a m c)) (K0 : KeepAt w k l t 1) :
    Calls Tryz.prog 35 #[.pointer (some ⟨r, 0, none⟩), .pointer (some ⟨bc, 0, none⟩), .pointer (some ⟨bh, 0, none⟩)] w fun e w' => e = .returned (.tuple #[.slice none 0 0, .int .i64 11]) ∧ Ext w w' := by
  obtain ⟨r0, p0, b0, h0, c0⟩ := hS
  have HK0 := Lib.hid K0
  clear K0
  go_enter Tryz.func35, Tryz.ntmps35
  go_upto_region 3 with fail
  refine wp_region_held_drew (S := fun w' => w'.cell? ⟨r, 0, none⟩ = some (.pointer (some ⟨p, 0, none⟩)) ∧ w'.cell? ⟨p, 0, none⟩ = some (.pointer (some ⟨k, 0, none⟩)) ∧ w'.cell? ⟨bh, 0, none⟩ = some (.pointer (some ⟨h, 0, none⟩)) ∧ w'.cell? ⟨h, 2, none⟩ = some (.int .i64 now) ∧ w'.cell? ⟨bc, 0, none⟩ = some (.slice a m c)) (by kernel_rfl) ⟨r0, p0, b0, h0, c0⟩ fun hS0 => ?_
  refine wpAnyH_take (i := 0) (v := .pointer (some ⟨r, 0, none⟩)) rfl (by kernel_rfl) (by kernel_rfl) (by kernel_rfl) (fun _ _ _ h => h) (Or.inl ⟨by rfl, fun w hS => rfl⟩) hS0 ?_
  simp only [Act.put, List.getElem_toArray, List.getElem_cons_zero, List.getElem_cons_succ, List.setIfInBounds_toArray, List.set_cons_zero, List.set_cons_succ]
  refine wpAnyH_take (i := 1) (v := .pointer (some ⟨r, 0, none⟩)) rfl (by kernel_rfl) (by kernel_rfl) (by kernel_rfl) (fun _ _ _ h => h) (Or.inl ⟨by rfl, fun w hS => rfl⟩) hS0 ?_
  simp only [Act.put, List.getElem_toArray, List.getElem_cons_zero, List.getElem_cons_succ, List.setIfInBounds_toArray, List.set_cons_zero, List.set_cons_succ]
  refine wpAnyH_take (i := 2) (v := .pointer (some ⟨r, 0, none⟩)) rfl (by kernel_rfl) (by kernel_rfl) (by kernel_rfl) (fun _ _ _ h => h) (Or.inl ⟨by rfl, fun w hS => by obtain ⟨s0, s1, s2, s3, s4⟩ := hS; go_simp; try rfl⟩) hS0 ?_
  simp only [Act.put, List.getElem_toArray, List.getElem_cons_zero, List.getElem_cons_succ, List.setIfInBounds_toArray, List.set_cons_zero, List.set_cons_succ]
  refine wpAnyH_take (i := 3) (v := .pointer (some ⟨p, 0, none⟩)) rfl (by kernel_rfl) (by kernel_rfl) (by kernel_rfl) (fun _ _ _ h => h) (Or.inl ⟨by rfl, fun w hS => by obtain ⟨s0, s1, s2, s3, s4⟩ := hS; go_simp; try rfl⟩) hS0 ?_
  simp only [Act.put, List.getElem_toArray, List.getElem_cons_zero, List.getElem_cons_succ, List.setIfInBounds_toArray, List.set_cons_zero, List.set_cons_succ]
  refine wpAnyH_take (i := 4) (v := .pointer (some ⟨p, 0, none⟩)) rfl (by kernel_rfl) (by kernel_rfl) (by kernel_rfl) (fun _ _ _ h => h) (Or.inl ⟨by rfl, fun w hS => rfl⟩) hS0 ?_
  simp only [Act.put, List.getElem_toArray, List.getElem_cons_zero, List.getElem_cons_succ, List.setIfInBounds_toArray, List.set_cons_zero, List.set_cons_succ]
  refine wpAnyH_take (i := 5) (v := .pointer (some ⟨p, 0, none⟩)) rfl (by kernel_rfl) (by kernel_rfl) (by kernel_rfl) (fun _ _ _ h => h) (Or.inl ⟨by rfl, fun w hS => by obtain ⟨s0, s1, s2, s3, s4⟩ := hS; go_simp; try rfl⟩) hS0 ?_
  simp only [Act.put, List.getElem_toArray, List.getElem_cons_zero, List.getElem_cons_succ, List.setIfInBounds_toArray, List.set_cons_zero, List.set_cons_succ]
  refine wpAnyH_take (i := 6) (v := .pointer (some ⟨k, 0, none⟩)) rfl (by kernel_rfl) (by kernel_rfl) (by kernel_rfl) (fun _ _ _ h => h) (Or.inl ⟨by rfl, fun w hS => by obtain ⟨s0, s1, s2, s3, s4⟩ := hS; go_simp; try rfl⟩) hS0 ?_
  simp only [Act.put, List.getElem_toArray, List.getElem_cons_zero, List.getElem_cons_succ, List.setIfInBounds_toArray, List.set_cons_zero, List.set_cons_succ]
  refine wpAnyH_take (i := 7) (v := .pointer (some ⟨h, 0, none⟩)) rfl (by kernel_rfl) (by kernel_rfl) (by kernel_rfl) (fun _ _ _ h => h) (Or.inl ⟨by rfl, fun w hS => by obtain ⟨s0, s1, s2, s3, s4⟩ := hS; go_simp; try rfl⟩) hS0 ?_
  simp only [Act.put, List.getElem_toArray, List.getElem_cons_zero, List.getElem_cons_succ, List.setIfInBounds_toArray, List.set_cons_zero, List.set_cons_succ]
  refine wpAnyH_take (i := 8) (v := .pointer (some ⟨h, 0, none⟩)) rfl (by kernel_rfl) (by kernel_rfl) (by kernel_rfl) (fun _ _ _ h => h) (Or.inl ⟨by rfl, fun w hS => rfl⟩) hS0 ?_
  simp only [Act.put, List.getElem_toArray, List.getElem_cons_zero, List.getElem_cons_succ, List.setIfInBounds_toArray, List.set_cons_zero, List.set_cons_succ]
  refine wpAnyH_take (i := 9) (v := .pointer (some ⟨h, 2, none⟩)) rfl (by kernel_rfl) (by kernel_rfl) (by kernel_rfl) (fun _ _ _ h => h) (Or.inl ⟨by rfl, fun w hS => by obtain ⟨s0, s1, s2, s3, s4⟩ := hS; go_simp; try rfl⟩) hS0 ?_
  simp only [Act.put, List.getElem_toArray, List.getElem_cons_zero, List.getElem_cons_succ, List.setIfInBounds_toArray, List.set_cons_zero, List.set_cons_succ]
  refine wpAnyH_take (i := 10) (v := .int .i64 now) rfl (by kernel_rfl) (by kernel_rfl) (by kernel_rfl) (fun _ _ _ h => h) (Or.inl ⟨by rfl, fun w hS => by obtain ⟨s0, s1, s2, s3, s4⟩ := hS; go_simp; try rfl⟩) hS0 ?_
  simp only [Act.put, List.getElem_toArray, List.getElem_cons_zero, List.getElem_cons_succ, List.setIfInBounds_toArray, List.set_cons_zero, List.set_cons_succ]
  refine wpAnyH_take (i := 11) (v := .slice a m c) rfl (by kernel_rfl) (by kernel_rfl) (by kernel_rfl) (fun _ _ _ h => h) (Or.inl ⟨by rfl, fun w hS => by obtain ⟨s0, s1, s2, s3, s4⟩ := hS; go_simp; try rfl⟩) hS0 ?_
  simp only [Act.put, List.getElem_toArray, List.getElem_cons_zero, List.getElem_cons_succ, List.setIfInBounds_toArray, List.set_cons_zero, List.set_cons_succ]
  refine wpAnyH_ready (rs := [12]) (by kernel_rfl) (by simp) (AllReadyH.cons rfl (fun K hK => ?_) AllReadyH.nil)
  rw [if_pos (by rfl)]
  go_simp
  refine (keepFeed (HK0.out.ext (Ext.refl _).drew) _ _ _ _).mono ?_
  rintro e w7 ⟨rfl, hx7⟩
  have hS7 : w7.cell? ⟨r, 0, none⟩ = some (.pointer (some ⟨p, 0, none⟩)) ∧ w7.cell? ⟨p, 0, none⟩ = some (.pointer (some ⟨k, 0, none⟩)) ∧ w7.cell? ⟨bh, 0, none⟩ = some (.pointer (some ⟨h, 0, none⟩)) ∧ w7.cell? ⟨h, 2, none⟩ = some (.int .i64 now) ∧ w7.cell? ⟨bc, 0, none⟩ = some (.slice a m c) := ⟨hx7.cell_some hS0.1, hx7.cell_some hS0.2.1, hx7.cell_some hS0.2.2.1, hx7.cell_some hS0.2.2.2.1, hx7.cell_some hS0.2.2.2.2⟩
  refine hK.out _ _ hS7 fun _ => ?_
  clear hK K
  try simp only [Act.put, List.getElem_toArray, List.getElem_cons_zero, List.getElem_cons_succ, List.setIfInBounds_toArray, List.set_cons_zero, List.set_cons_succ]
  refine wpAnyH_take (i := 13) (v := .slice none 0 0) rfl (by kernel_rfl) (by kernel_rfl) (by kernel_rfl) (fun _ _ _ h => h) (Or.inl ⟨by rfl, fun w hS => by obtain ⟨s0, s1, s2, s3, s4⟩ := hS; go_simp; try rfl⟩) hS7 ?_
  simp only [Act.put, List.getElem_toArray, List.getElem_cons_zero, List.getElem_cons_succ, List.setIfInBounds_toArray, List.set_cons_zero, List.set_cons_succ]
  refine wpAnyH_take (i := 14) (v := .int .i64 11) rfl (by kernel_rfl) (by kernel_rfl) (by kernel_rfl) (fun _ _ _ h => h) (Or.inl ⟨by rfl, fun w hS => by obtain ⟨s0, s1, s2, s3, s4⟩ := hS; go_simp; try rfl⟩) hS7 ?_
  simp only [Act.put, List.getElem_toArray, List.getElem_cons_zero, List.getElem_cons_succ, List.setIfInBounds_toArray, List.set_cons_zero, List.set_cons_succ]
  refine wpAnyH_take (i := 15) (v := .slice none 0 0) rfl (by kernel_rfl) (by kernel_rfl) (by kernel_rfl) (fun _ _ _ h => h) (Or.inl ⟨by rfl, fun w hS => by obtain ⟨s0, s1, s2, s3, s4⟩ := hS; go_simp; try rfl⟩) hS7 ?_
  simp only [Act.put, List.getElem_toArray, List.getElem_cons_zero, List.getElem_cons_succ, List.setIfInBounds_toArray, List.set_cons_zero, List.set_cons_succ]
  refine wpAnyH_take (i := 16) (v := .int .i64 11) rfl (by kernel_rfl) (by kernel_rfl) (by kernel_rfl) (fun _ _ _ h => h) (Or.inl ⟨by rfl, fun w hS => by obtain ⟨s0, s1, s2, s3, s4⟩ := hS; go_simp; try rfl⟩) hS7 ?_
  simp only [Act.put, List.getElem_toArray, List.getElem_cons_zero, List.getElem_cons_succ, List.setIfInBounds_toArray, List.set_cons_zero, List.set_cons_succ]
  refine wpAnyH_done (by kernel_rfl) ?_ _
  go_wp2
  go_ret2
  exact ⟨rfl, ((Ext.refl _).drew).trans hx7⟩

section
variable {w : World} {h m s sm n : Nat} {D : DataW Value} {now : Int} {name : ByteArray}
theorem feed_long (H : HostAt w h m s sm n D now) (hs : name.size ≤ 4294967296) {p : Nat} (hat : ∀ zd, D.atKey (.string name.data.toList) zd = .held (.pointer (some ⟨p, 0, none⟩))) {a : Option Addr} {k c : Nat} (hk : (8192 : Int) < k) :
    Calls Tryz.prog 9 #[.pointer (some ⟨h, 0, none⟩), .string name, .slice a k c] w fun e w' => e = .returned (.tuple #[.slice none 0 0, .int .i64 3]) ∧ Ext w w' := by
  have hx2 : Ext w ((w.alloc (.cells #[.pointer (some ⟨h, 0, none⟩)] 24)).alloc (.cells #[.slice a k c] 22)) := ((Ext.refl w).alloc _).alloc _
  have HH := Lib.hid (H.ext hx2)
  have s1 : (w.alloc (.cells #[.pointer (some ⟨h, 0, none⟩)] 24)).heap.size = w.heap.size + 1 := by simp
  have hcb := cells_new (w.alloc (.cells #[.pointer (some ⟨h, 0, none⟩)] 24)) #[.slice a k c] 22 (i := 0) (v := .slice a k c) rfl
  rw [s1] at hcb
  have hcb' := fun o : Obj => Lib.cell?_alloc_some o hcb
  have HCB := Lib.hid hcb'
  have HA := Lib.hid hat
  have HX2 := Lib.hid hx2
  have hev : Calls Tryz.prog 32 #[.pointer (some ⟨h, 0, none⟩), .string name, .func (.func 35) #[] #[.pointer (some ⟨w.heap.size + 1, 0, none⟩), .pointer (some ⟨w.heap.size, 0, none⟩)]] ((w.alloc (.cells #[.pointer (some ⟨h, 0, none⟩)] 24)).alloc (.cells #[.slice a k c] 22)) fun e w' => e = .returned (.tuple #[.slice none 0 0, .int .i64 3]) ∧ Ext w w' := by
    clear H hat hcb hcb' s1 hx2
    go_enter Tryz.func32, Tryz.ntmps32
    go_wp2_with (first
      | (go_at_call 29; refine (of_yes HH.out hs HA.out).mono ?_; rintro e w6 ⟨rfl, rfl⟩)
      | (go_at_call 35; refine (feed1_long hk (HCB.out _) _).mono ?_; rintro e w7 ⟨rfl, rfl⟩))
    go_ret2
    exact ⟨rfl, HX2.out.alloc _⟩
  have HEV := Lib.hid hev
  clear H hat hcb hcb' s1 hx2 hev
  go_enter Tryz.func9, Tryz.ntmps9
  go_wp2_with (go_at_call 32; refine HEV.out.mono ?_; rintro e w1 ⟨rfl, hx⟩)
  go_ret2
  exact ⟨rfl, hx⟩

theorem feed_state (H : HostAt w h m s sm n D now) (hs : name.size ≤ 4294967296) {p kk q : Nat} (hat : ∀ zd, D.atKey (.string name.data.toList) zd = .held (.pointer (some ⟨p, 0, none⟩))) {lim wt pat : Int} (P : ProvAt w p kk q name lim wt 1 pat) {a : Option Addr} {k c : Nat} (hk : ¬ (8192 : Int) < k) :
    Calls Tryz.prog 9 #[.pointer (some ⟨h, 0, none⟩), .string name, .slice a k c] w fun e w' => e = .returned (.tuple #[.slice none 0 0, .int .i64 11]) ∧ Ext w w' := by
  have hx2 : Ext w ((w.alloc (.cells #[.pointer (some ⟨h, 0, none⟩)] 24)).alloc (.cells #[.slice a k c] 22)) := ((Ext.refl w).alloc _).alloc _
  have HH := Lib.hid (H.ext hx2)
  have s1 : (w.alloc (.cells #[.pointer (some ⟨h, 0, none⟩)] 24)).heap.size = w.heap.size + 1 := by simp
  have hcb := cells_new (w.alloc (.cells #[.pointer (some ⟨h, 0, none⟩)] 24)) #[.slice a k c] 22 (i := 0) (v := .slice a k c) rfl
  rw [s1] at hcb
  have hhb := Lib.cell?_alloc_some (.cells #[.slice a k c] 22) (cells_new w #[.pointer (some ⟨h, 0, none⟩)] 24 (i := 0) (v := .pointer (some ⟨h, 0, none⟩)) rfl)
  have HCB := Lib.hid hcb
  have HHB := Lib.hid hhb
  have HA := Lib.hid hat
  have HX2 := Lib.hid hx2
  have HP := Lib.hid (P.ext hx2)
  have hev : Calls Tryz.prog 32 #[.pointer (some ⟨h, 0, none⟩), .string name, .func (.func 35) #[] #[.pointer (some ⟨w.heap.size + 1, 0, none⟩), .pointer (some ⟨w.heap.size, 0, none⟩)]] ((w.alloc (.cells #[.pointer (some ⟨h, 0, none⟩)] 24)).alloc (.cells #[.slice a k c] 22)) fun e w' => e = .returned (.tuple #[.slice none 0 0, .int .i64 11]) ∧ Ext w w' := by
    clear H hat hcb hhb s1 hx2 P
    generalize World.alloc (World.alloc w _) _ = w2 at *
    have hx3 : Ext w2 (w2.alloc (runObj p h (.slice none 0 0))) := (Ext.refl w2).alloc _
    have f1 := Lib.hid (feed1_state (r := w2.heap.size) (p := p) (k := kk) (h := h) (now := now) hk ⟨cells_new w2 _ _ rfl, hx3.cell_some HP.out.facts.1, hx3.cell_some HHB.out, hx3.cell_some HH.out.facts.2.2.1, hx3.cell_some HCB.out⟩ (HP.out.keep.ext hx3))
    have HX3 := Lib.hid hx3
    clear hx3
    go_enter Tryz.func32, Tryz.ntmps32
    go_wp2_with (first
      | (go_at_call 29; refine (of_yes HH.out hs HA.out).mono ?_; rintro e w6 ⟨rfl, rfl⟩)
      | (go_at_call 35; refine f1.out.mono ?_; rintro e w7 ⟨rfl, hx7⟩))
    go_ret2
    exact ⟨rfl, (HX2.out.trans HX3.out).trans hx7⟩
  have HEV := Lib.hid hev
  clear H hat hcb hhb s1 hx2 hev P
  go_enter Tryz.func9, Tryz.ntmps9
  go_wp2_with (go_at_call 32; refine HEV.out.mono ?_; rintro e w1 ⟨rfl, hx⟩)
  go_ret2
  exact ⟨rfl, hx⟩
end
end Go.Proofs.YtamcfjjnaolpmaaGreatDoor
