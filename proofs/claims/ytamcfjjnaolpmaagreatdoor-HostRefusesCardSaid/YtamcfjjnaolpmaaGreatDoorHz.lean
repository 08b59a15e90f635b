/- Time goes by, of a host with one provider, or none. -/
import Derived.Test.YtamcfjjnaolpmaaGreatDoorHp
import Derived.Test.YtamcfjjnaolpmaaGreatDoorHv
namespace Go.Proofs.YtamcfjjnaolpmaaGreatDoor
open Go.RowKit
set_option maxRecDepth 100000

theorem names0 {w : World} {h m s sm n : Nat} {now : Int} (H : HostAt w h m s sm n (.map []) now) :
    Calls Tryz.prog 18 #[.pointer (some ⟨h, 0, none⟩)] w fun e w' => ∃ a c, e = .returned (.slice a 0 c) ∧ Ext w w' := by
  refine (names_calls H (by simp [Maps.size])).mono ?_
  rintro e w' ⟨v, ss, rfl, hp, hs, hx⟩
  have : ss = [] := by simpa [strKeys] using hp
  subst this
  obtain ⟨a, c, rfl⟩ := Slc.is hs
  exact ⟨a, c, rfl, hx⟩

theorem names1 {w : World} {h m s sm n p : Nat} {name : ByteArray} {now : Int} (H : HostAt w h m s sm n (pMap name p) now) :
    Calls Tryz.prog 18 #[.pointer (some ⟨h, 0, none⟩)] w fun e w' => ∃ b o c, e = .returned (.slice (some ⟨b, o, none⟩) 1 c) ∧ w'.cell? ⟨b, o, none⟩ = some (.string name) ∧ Ext w w' := by
  refine (names_calls H (by simp [Maps.size, pMap])).mono ?_
  rintro e w' ⟨v, ss, rfl, hp, hs, hx⟩
  have : ss = [name.data.toList] := (by simpa [strKeys, pMap] using hp : ss = [strOf (Lit.string name.data.toList)])
  subst this
  obtain ⟨_, a, c, rfl, _, _, h3⟩ := hs
  obtain ⟨b, o, rfl, hc⟩ := h3 (by simp)
  exact ⟨b, o, c, rfl, hc 0 _ (by simp [encStr]), hx⟩

theorem tick_lt {w : World} (h : Nat) {n : Int} (hn : n < 1) : Calls Tryz.prog 13 #[.pointer (some ⟨h, 0, none⟩), .int .i64 n] w fun e w' => (∃ v, e = .returned v) ∧ w' = w := by
  go_enter Tryz.func13, Tryz.ntmps13
  go_wp2
  go_ret
  exact ⟨⟨_, rfl⟩, rfl⟩

/-- The host at a tick. -/
theorem HostAt.at {w : World} {h m s sm n : Nat} {D : DataW Value} {now : Int} (H : HostAt w h m s sm n D now) (t : Int) : HostAt (w.setCell ⟨h, 2, none⟩ (.int .i64 t)) h m s sm n D t := by
  have hal := H.apart
  obtain ⟨es, clock, hb, hr⟩ := H.map
  obtain ⟨es2, clock2, hb2, hr2⟩ := H.smap
  refine ⟨by simpa using heap_set (o := 2) (v := .int .i64 t) H.cells, ⟨es, clock, ?_, hr⟩, ?_, ⟨es2, clock2, ?_, hr2⟩, H.apart⟩
  · rw [Below.heap_setCell _ _ _ _ (by simp; omega)]; exact hb
  · rw [Below.heap_setCell _ _ _ _ (by simp; omega)]; exact H.store
  · rw [Below.heap_setCell _ _ _ _ (by simp; omega)]; exact hb2

set_option maxHeartbeats 1000000 in
theorem tick0 {w : World} {h m s sm k : Nat} (H : HostAt w h m s sm k (.map []) 0) {n : Int} (hn : ¬ n < 1) :
    Calls Tryz.prog 13 #[.pointer (some ⟨h, 0, none⟩), .int .i64 n] w fun e w' => (∃ v, e = .returned v) ∧ HostAt w' h m s sm k (.map []) (min (max n 0) 1152921504606846976) ∧ w.grownBy w' (some h) := by
  obtain ⟨c0, c1, c2, f2, hh⟩ := H.facts
  have HT := Lib.hid (H.at (min (max n 0) 1152921504606846976))
  clear H
  go_enter Tryz.func13, Tryz.ntmps13
  go_wp2_with (first
    | (go_at_call 43; refine (clockAdd _ _).mono ?_; rintro e w1 ⟨rfl, rfl⟩)
    | (go_at_call 18; refine (names0 HT.out).mono ?_; rintro e w2 ⟨a, c, rfl, hx⟩))
  go_loop [28] (fun i => i = .int .i64 0) (fun _ => 0)
  case atStart => rfl
  case round =>
    obtain rfl := hrel
    go_wp2
    go_ret
    exact ⟨⟨_, rfl⟩, HT.out.ext hx, grown_ext (grown_set (grown_refl _ _)) hx⟩

theorem ProvAt.ext {w w' : World} (hx : Ext w w') {p k q : Nat} {name : ByteArray} {lim wt st pat : Int} (P : ProvAt w p k q name lim wt st pat) : ProvAt w' p k q name lim wt st pat :=
  ⟨(hx.heap (Array.getElem?_eq_some_iff.1 P.cells).1).trans P.cells, P.keep.ext hx, (hx.heap (Array.getElem?_eq_some_iff.1 P.queue).1).trans P.queue, P.apart⟩
theorem ProvAt.at {w : World} {p k q h : Nat} {name : ByteArray} {lim wt st pat : Int} (P : ProvAt w p k q name lim wt st pat) (hh : h < k) (v : Value) (o : Nat) : ProvAt (w.setCell ⟨h, o, none⟩ v) p k q name lim wt st pat := by
  have hpa := P.apart
  obtain ⟨pp, hk⟩ := P.keep
  refine ⟨?_, ⟨pp, ?_⟩, ?_, P.apart⟩
  · rw [Below.heap_setCell _ _ _ _ (by simp; omega)]; exact P.cells
  · rw [Below.heap_setCell _ _ _ _ (by simp; omega)]; exact hk
  · rw [Below.heap_setCell _ _ _ _ (by simp; omega)]; exact P.queue

set_option maxHeartbeats 4000000 in
theorem tick1 {w : World} {h m s sm k0 p k q : Nat} {name : ByteArray} {lim wt pat : Int} (H : HostAt w h m s sm k0 (pMap name p) 0) (hs : name.size ≤ 4294967296) (P : ProvAt w p k q name lim wt 1 pat) (hhk : h < k) {n : Int} (hn : ¬ n < 1) :
    Calls Tryz.prog 13 #[.pointer (some ⟨h, 0, none⟩), .int .i64 n] w fun e w' => (∃ v, e = .returned v) ∧ HostAt w' h m s sm k0 (pMap name p) (min (max n 0) 1152921504606846976) ∧ w.grownBy w' (some h) := by
  obtain ⟨c0, c1, c2, f2, hh⟩ := H.facts
  have HT := Lib.hid (H.at (min (max n 0) 1152921504606846976))
  have HP := Lib.hid (P.at hhk (.int .i64 (min (max n 0) 1152921504606846976)) 2)
  have HS := Lib.hid hs
  clear H P hs
  go_enter Tryz.func13, Tryz.ntmps13
  go_wp2_with (first
    | (go_at_call 43; refine (clockAdd _ _).mono ?_; rintro e w1 ⟨rfl, rfl⟩)
    | (go_at_call 18; refine (names1 HT.out).mono ?_; rintro e w2 ⟨nb, no, nc, rfl, hnm, hx⟩))
  have HX := Lib.hid hx
  have HT2 := Lib.hid (HT.out.ext hx)
  have HP2 := Lib.hid (HP.out.ext hx)
  clear hx
  go_loopw [5, 28] (fun o i wr => o = .slice none 0 0 ∧ ((i = .int .i64 0 ∧ wr = w2) ∨ (i = .int .i64 1 ∧ Hid (Ext w2 wr)))) (fun _ i _ => 1 - (intOf i).toNat)
  case atStart => exact ⟨rfl, .inl ⟨rfl, rfl⟩⟩
  case round =>
    obtain ⟨rfl, ⟨rfl, rfl⟩ | ⟨rfl, hd⟩⟩ := hrel
    · have hx3 : Hid (Ext wr (wr.alloc (runObj p h (.slice none 0 0)))) := (Ext.refl wr).alloc _
      obtain ⟨y0, y1, y2, yf2, yh⟩ := (HT2.out.ext hx3.out).facts
      obtain ⟨p0, p2, p3, p4, k3, hp⟩ := (HP2.out.ext hx3.out).facts
      have r0 : (wr.alloc (runObj p h (.slice none 0 0))).cell? ⟨wr.heap.size, 0, none⟩ = some (.pointer (some ⟨p, 0, none⟩)) := cells_new wr _ _ rfl
      go_upto_region 9 with (go_at_call 29; refine (of_yes HT2.out HS.out (pMap_at name _)).mono ?_; rintro e w6 ⟨rfl, rfl⟩)
      -- REGION 9
      refine wp_region_held_drew (S := fun w' => w'.cell? ⟨wr.heap.size, 0, none⟩ = some (.pointer (some ⟨p, 0, none⟩)) ∧ w'.cell? ⟨p, 0, none⟩ = some (.pointer (some ⟨k, 0, none⟩)) ∧ w'.cell? ⟨h, 2, none⟩ = some (.int .i64 (min (max n 0) 1152921504606846976))) (by kernel_rfl) ⟨r0, p0, y2⟩ fun hS0 => ?_
      refine wpAnyH_take (i := 0) (v := .pointer (some ⟨wr.heap.size, 0, none⟩)) rfl (by kernel_rfl) (by kernel_rfl) (by kernel_rfl) (fun _ _ _ h => h) (Or.inl ⟨by rfl, fun w hS => rfl⟩) hS0 ?_
      simp only [Act.put, List.getElem_toArray, List.getElem_cons_zero, List.getElem_cons_succ, List.setIfInBounds_toArray, List.set_cons_zero, List.set_cons_succ]
      refine wpAnyH_take (i := 1) (v := .pointer (some ⟨wr.heap.size, 0, none⟩)) rfl (by kernel_rfl) (by kernel_rfl) (by kernel_rfl) (fun _ _ _ h => h) (Or.inl ⟨by rfl, fun w hS => rfl⟩) hS0 ?_
      simp only [Act.put, List.getElem_toArray, List.getElem_cons_zero, List.getElem_cons_succ, List.setIfInBounds_toArray, List.set_cons_zero, List.set_cons_succ]
      refine wpAnyH_take (i := 2) (v := .pointer (some ⟨wr.heap.size, 0, none⟩)) rfl (by kernel_rfl) (by kernel_rfl) (by kernel_rfl) (fun _ _ _ h => h) (Or.inl ⟨by rfl, fun w hS => rfl⟩) hS0 ?_
      simp only [Act.put, List.getElem_toArray, List.getElem_cons_zero, List.getElem_cons_succ, List.setIfInBounds_toArray, List.set_cons_zero, List.set_cons_succ]
      refine wpAnyH_take (i := 3) (v := .pointer (some ⟨wr.heap.size, 0, none⟩)) rfl (by kernel_rfl) (by kernel_rfl) (by kernel_rfl) (fun _ _ _ h => h) (Or.inl ⟨by rfl, fun w hS => by obtain ⟨s0, s1, s2⟩ := hS; go_simp; try rfl⟩) hS0 ?_
      simp only [Act.put, List.getElem_toArray, List.getElem_cons_zero, List.getElem_cons_succ, List.setIfInBounds_toArray, List.set_cons_zero, List.set_cons_succ]
      refine wpAnyH_take (i := 4) (v := .pointer (some ⟨p, 0, none⟩)) rfl (by kernel_rfl) (by kernel_rfl) (by kernel_rfl) (fun _ _ _ h => h) (Or.inl ⟨by rfl, fun w hS => by obtain ⟨s0, s1, s2⟩ := hS; go_simp; try rfl⟩) hS0 ?_
      simp only [Act.put, List.getElem_toArray, List.getElem_cons_zero, List.getElem_cons_succ, List.setIfInBounds_toArray, List.set_cons_zero, List.set_cons_succ]
      refine wpAnyH_take (i := 5) (v := .pointer (some ⟨p, 0, none⟩)) rfl (by kernel_rfl) (by kernel_rfl) (by kernel_rfl) (fun _ _ _ h => h) (Or.inl ⟨by rfl, fun w hS => rfl⟩) hS0 ?_
      simp only [Act.put, List.getElem_toArray, List.getElem_cons_zero, List.getElem_cons_succ, List.setIfInBounds_toArray, List.set_cons_zero, List.set_cons_succ]
      refine wpAnyH_take (i := 6) (v := .pointer (some ⟨p, 0, none⟩)) rfl (by kernel_rfl) (by kernel_rfl) (by kernel_rfl) (fun _ _ _ h => h) (Or.inl ⟨by rfl, fun w hS => by obtain ⟨s0, s1, s2⟩ := hS; go_simp; try rfl⟩) hS0 ?_
      simp only [Act.put, List.getElem_toArray, List.getElem_cons_zero, List.getElem_cons_succ, List.setIfInBounds_toArray, List.set_cons_zero, List.set_cons_succ]
      refine wpAnyH_take (i := 7) (v := .pointer (some ⟨k, 0, none⟩)) rfl (by kernel_rfl) (by kernel_rfl) (by kernel_rfl) (fun _ _ _ h => h) (Or.inl ⟨by rfl, fun w hS => by obtain ⟨s0, s1, s2⟩ := hS; go_simp; try rfl⟩) hS0 ?_
      simp only [Act.put, List.getElem_toArray, List.getElem_cons_zero, List.getElem_cons_succ, List.setIfInBounds_toArray, List.set_cons_zero, List.set_cons_succ]
      refine wpAnyH_take (i := 8) (v := .pointer (some ⟨h, 0, none⟩)) rfl (by kernel_rfl) (by kernel_rfl) (by kernel_rfl) (fun _ _ _ h => h) (Or.inl ⟨by rfl, fun w hS => rfl⟩) hS0 ?_
      simp only [Act.put, List.getElem_toArray, List.getElem_cons_zero, List.getElem_cons_succ, List.setIfInBounds_toArray, List.set_cons_zero, List.set_cons_succ]
      refine wpAnyH_take (i := 9) (v := .pointer (some ⟨h, 0, none⟩)) rfl (by kernel_rfl) (by kernel_rfl) (by kernel_rfl) (fun _ _ _ h => h) (Or.inl ⟨by rfl, fun w hS => rfl⟩) hS0 ?_
      simp only [Act.put, List.getElem_toArray, List.getElem_cons_zero, List.getElem_cons_succ, List.setIfInBounds_toArray, List.set_cons_zero, List.set_cons_succ]
      refine wpAnyH_take (i := 10) (v := .pointer (some ⟨h, 2, none⟩)) rfl (by kernel_rfl) (by kernel_rfl) (by kernel_rfl) (fun _ _ _ h => h) (Or.inl ⟨by rfl, fun w hS => by obtain ⟨s0, s1, s2⟩ := hS; go_simp; try rfl⟩) hS0 ?_
      simp only [Act.put, List.getElem_toArray, List.getElem_cons_zero, List.getElem_cons_succ, List.setIfInBounds_toArray, List.set_cons_zero, List.set_cons_succ]
      refine wpAnyH_take (i := 11) (v := .int .i64 (min (max n 0) 1152921504606846976)) rfl (by kernel_rfl) (by kernel_rfl) (by kernel_rfl) (fun _ _ _ h => h) (Or.inl ⟨by rfl, fun w hS => by obtain ⟨s0, s1, s2⟩ := hS; go_simp; try rfl⟩) hS0 ?_
      simp only [Act.put, List.getElem_toArray, List.getElem_cons_zero, List.getElem_cons_succ, List.setIfInBounds_toArray, List.set_cons_zero, List.set_cons_succ]
      refine wpAnyH_ready (rs := [12]) (by kernel_rfl) (by simp) (AllReadyH.cons rfl (fun K hK => ?_) AllReadyH.nil)
      rw [if_pos (by rfl)]
      go_simp
      refine (keepTick ((HP2.out.ext hx3.out).keep.ext (Ext.refl _).drew) _).mono ?_
      rintro e w7 ⟨rfl, hx7⟩
      have hS7 : w7.cell? ⟨wr.heap.size, 0, none⟩ = some (.pointer (some ⟨p, 0, none⟩)) ∧ w7.cell? ⟨p, 0, none⟩ = some (.pointer (some ⟨k, 0, none⟩)) ∧ w7.cell? ⟨h, 2, none⟩ = some (.int .i64 (min (max n 0) 1152921504606846976)) := ⟨hx7.cell_some hS0.1, hx7.cell_some hS0.2.1, hx7.cell_some hS0.2.2⟩
      refine hK.out _ _ hS7 fun _ => ?_
      clear hK K
      try simp only [Act.put, List.getElem_toArray, List.getElem_cons_zero, List.getElem_cons_succ, List.setIfInBounds_toArray, List.set_cons_zero, List.set_cons_succ]
      refine wpAnyH_ready (rs := [13]) (by kernel_rfl) (by simp) (AllReadyH.cons rfl (fun K hK => ?_) AllReadyH.nil)
      rw [if_pos (by rfl)]
      go_simp
      refine (take_nil _ _).mono ?_
      rintro e w8 ⟨rfl, rfl⟩
      refine hK.out _ _ hS7 fun _ => ?_
      clear hK K
      try simp only [Act.put, List.getElem_toArray, List.getElem_cons_zero, List.getElem_cons_succ, List.setIfInBounds_toArray, List.set_cons_zero, List.set_cons_succ]
      refine wpAnyH_done (by kernel_rfl) ?_ _
      have hx37 : Ext wr w8 := (hx3.out.drew).trans hx7
      have hr8 : w8.heap[wr.heap.size]? = some (runObj p h (.slice none 0 0)) := (hx7.heap (show wr.heap.size < (wr.alloc (runObj p h (.slice none 0 0))).drew.heap.size from Nat.lt_of_lt_of_eq (Nat.lt_succ_self _) (by simp))).trans (heap_new wr _)
      have HR8 := Lib.hid hr8
      have HX37 := Lib.hid hx37
      have HP8 := Lib.hid (HP2.out.ext hx37)
      have o8 : w8.cell? ⟨wr.heap.size, 2, none⟩ = some (.slice none 0 0) := run_out hr8
      clear hx7 hx37 hr8 hS7 hS0
      go_wp2_with (first
        | (go_at_call 45; refine (late_calls HR8.out HP8.out).mono ?_; rintro e w9 ⟨rfl, hx9⟩; have HX9 := Lib.hid hx9; have o9 := hx9.cell_some o8; have hr9 := Lib.hid ((hx9.heap (Array.getElem?_eq_some_iff.1 HR8.out).1).trans HR8.out))
        | (go_at_call 42; refine (pump_calls hr9.out (HP8.out.ext HX9.out)).mono ?_; rintro e wa ⟨rfl, rfl⟩))
      exact ⟨⟨rfl, .inr ⟨rfl, HX37.out.trans HX9.out⟩⟩, by simp [intOf]⟩
    · go_wp2
      go_ret
      exact ⟨⟨_, rfl⟩, HT2.out.ext hd.out, grown_ext (grown_set (grown_refl _ _)) (HX.out.trans hd.out)⟩

theorem now_at {w : World} {h m s sm n : Nat} {D : DataW Value} {now : Int} (H : HostAt w h m s sm n D now) : Calls Tryz.prog 17 #[.pointer (some ⟨h, 0, none⟩)] w fun e w' => e = .returned (.int .i64 now) ∧ w' = w := by
  obtain ⟨c0, c1, c2, f2, hh⟩ := H.facts
  go_enter Tryz.func17, Tryz.ntmps17
  go_wp2
  go_ret
  exact ⟨rfl, rfl⟩
end Go.Proofs.YtamcfjjnaolpmaaGreatDoor
