/- What a host's making and adding calls: rules, keepers, queues, stores. -/
import Derived.Test.YtamcfjjnaolpmaaGreatDoorNm
import Derived.Test.YtamcfjjnaolpmaaGreatDoorHm
namespace Go.Proofs.YtamcfjjnaolpmaaGreatDoor
open Go.RowKit
set_option maxRecDepth 100000

theorem cells_new (w : World) (cs : Array Value) (t : TypeId) {i : Nat} {v : Value} (h : cs[i]? = some v) : (w.alloc (.cells cs t)).cell? ⟨w.heap.size, i, none⟩ = some v := by
  unfold World.cell?
  rw [show (⟨w.heap.size, i, none⟩ : Addr).block = w.heap.size from rfl, heap_new]
  exact h

theorem in_calls (n m : Int) (w : World) : Calls Tryz.prog 52 #[.int .i64 n, .int .i64 m] w fun e w' => e = .returned (.bool (decide (1 ≤ n ∧ n ≤ m))) ∧ w' = w := by
  by_cases h1 : (1 : Int) ≤ n <;> by_cases h2 : n ≤ m
  all_goals
    go_enter Tryz.func52, Tryz.ntmps52
    go_wp2
    go_ret
    refine ⟨?_, rfl⟩
    simp [h1, h2]

def RightR (b c t k : Int) : Prop := (1 ≤ b ∧ b ≤ c) ∧ (1 ≤ c ∧ c ≤ 1000000) ∧ (1 ≤ t ∧ t ≤ 100) ∧ (1 ≤ k ∧ k ≤ 1000000)

theorem right_yes {b c t k : Int} (h : RightR b c t k) (w : World) : Calls Tryz.prog 21 #[.agg #[.int .i64 b, .int .i64 c, .int .i64 t, .int .i64 k]] w fun e w' => e = .returned (.bool true) ∧ Ext w w' := by
  obtain ⟨h1, h2, h3, h4⟩ := h
  have d1 := decide_eq_true h1
  have d2 := decide_eq_true h2
  have d3 := decide_eq_true h3
  have d4 := decide_eq_true h4
  have hb : (b == 0) = false := by simp; omega
  clear h1 h2 h3 h4
  go_enter Tryz.func21, Tryz.ntmps21
  go_wp2_with (go_at_call 52; refine (in_calls _ _ _).mono ?_; rintro e w2 ⟨rfl, rfl⟩)
  go_ret
  exact ⟨rfl, (by repeat (first | exact Ext.refl _ | assumption | refine Ext.alloc ?_ _ | refine Ext.drew ?_ | refine Ext.setCell ?_ (by simp) _ | refine Ext.trans ?_ (by assumption)))⟩

theorem setting_calls (w : World) : Calls Tryz.prog 7 #[] w fun e w' => e = .returned (.agg #[.int .i64 1, .int .i64 4, .int .i64 3, .int .i64 5, .int .i64 4096, .int .i64 3, .int .i64 7]) ∧ Ext w w' := by
  go_enter Tryz.func7, Tryz.ntmps7
  go_wp2
  exact bodyPost_ret (v := .agg #[.int .i64 1, .int .i64 4, .int .i64 3, .int .i64 5, .int .i64 4096, .int .i64 3, .int .i64 7]) (by simp [results, Tryz.results7, go_sem]) rfl ⟨rfl, (by repeat (first | exact Ext.refl _ | assumption | refine Ext.alloc ?_ _ | refine Ext.drew ?_ | refine Ext.setCell ?_ (by simp) _ | refine Ext.trans ?_ (by assumption)))⟩

theorem backoffNew_yes {b c t k : Int} (h : RightR b c t k) (w : World) : Calls Tryz.prog 54 #[.agg #[.int .i64 b, .int .i64 c, .int .i64 t, .int .i64 k]] w fun e w' => (∃ p, e = .returned (.tuple #[.pointer (some p), .int .i64 0])) ∧ Ext w w' := by
  go_enter Tryz.func54, Tryz.ntmps54
  go_wp2_with (go_at_call 21; refine (right_yes h _).mono ?_; rintro e w2 ⟨rfl, hx2⟩; have k0 := hx2.cell_some (cells_new w _ 30 (i := 0) rfl); have k1 := hx2.cell_some (cells_new w _ 30 (i := 1) rfl); have k2 := hx2.cell_some (cells_new w _ 30 (i := 2) rfl); have k3 := hx2.cell_some (cells_new w _ 30 (i := 3) rfl))
  go_ret2
  exact ⟨⟨_, rfl⟩, (by repeat (first | exact Ext.refl _ | assumption | refine Ext.alloc ?_ _ | refine Ext.drew ?_ | refine Ext.setCell ?_ (by simp) _ | refine Ext.trans ?_ (by assumption)))⟩

def RightS (limit wait : Int) : Prop := 64 ≤ limit ∧ limit ≤ 4096 ∧ 1 ≤ wait ∧ wait ≤ 1000000

theorem sessionNew_yes {l t : Int} (h : RightS l t) (w : World) : Calls Tryz.prog 55 #[.int .i64 l, .int .i64 t] w fun e w' => (∃ p, e = .returned (.tuple #[.pointer (some p), .int .i64 0])) ∧ Ext w w' := by
  obtain ⟨h1, h2, h3, h4⟩ := h
  have d1 : decide (l < 64) = false := by simp; omega
  have d2 : decide (4096 < l) = false := by simp; omega
  have d3 : decide (t < 1) = false := by simp; omega
  have d4 : decide (1000000 < t) = false := by simp; omega
  go_enter Tryz.func55, Tryz.ntmps55
  go_wp2
  go_ret2
  exact ⟨⟨_, rfl⟩, (by repeat (first | exact Ext.refl _ | assumption | refine Ext.alloc ?_ _ | refine Ext.drew ?_ | refine Ext.setCell ?_ (by simp) _ | refine Ext.trans ?_ (by assumption)))⟩

/-- A keeper, in a state. -/
def KeepAt (w : World) (k : Nat) (limit wait state : Int) : Prop := ∃ p, w.heap[k]? = some (.cells #[.pointer (some p), .int .i64 limit, .int .i64 wait, .int .i64 state, .int .i64 0, .pointer none] 134 (0, 0))

theorem KeepAt.ext {w w' : World} (hx : Ext w w') {k : Nat} {l t s : Int} (h : KeepAt w k l t s) : KeepAt w' k l t s := by
  obtain ⟨p, h⟩ := h
  exact ⟨p, (hx.heap (Array.getElem?_eq_some_iff.1 h).1).trans h⟩

theorem superviseNew_yes {b c t k l u : Int} (h : RightR b c t k) (h2 : RightS l u) (w : World) : Calls Tryz.prog 27 #[.agg #[.int .i64 b, .int .i64 c, .int .i64 t, .int .i64 k], .int .i64 l, .int .i64 u] w
    fun e w' => ∃ g, e = .returned (.tuple #[.pointer (some ⟨g, 0, none⟩), .int .i64 0]) ∧ w.heap.size ≤ g ∧ KeepAt w' g l u 0 ∧ Ext w w' := by
  go_enter Tryz.func27, Tryz.ntmps27
  go_wp2_with (first
    | (go_at_call 54; refine (backoffNew_yes h _).mono ?_; rintro e w2 ⟨⟨p, rfl⟩, hx2⟩)
    | (go_at_call 55; refine (sessionNew_yes h2 _).mono ?_; rintro e w3 ⟨⟨q, rfl⟩, hx3⟩))
  go_ret2
  have hx : Ext w w3 := (by repeat (first | exact Ext.refl _ | assumption | refine Ext.alloc ?_ _ | refine Ext.drew ?_ | refine Ext.setCell ?_ (by simp) _ | refine Ext.trans ?_ (by assumption)))
  exact ⟨w3.heap.size, rfl, hx.size, ⟨p, (MapKept.heap_alloc _ _).1⟩, (by repeat (first | exact Ext.refl _ | assumption | refine Ext.alloc ?_ _ | refine Ext.drew ?_ | refine Ext.setCell ?_ (by simp) _ | refine Ext.trans ?_ (by assumption)))⟩

theorem queueNew_calls (w : World) : Calls Tryz.prog 28 #[.int .i64 8] w
    fun e w' => e = .returned (.tuple #[.pointer (some ⟨w.heap.size, 0, none⟩), .int .i64 0]) ∧ w' = w.alloc (.cells #[.slice none 0 0, .int .i64 8, .int .i64 0] 137) := by
  go_enter Tryz.func28, Tryz.ntmps28
  go_wp2
  go_ret2
  exact ⟨rfl, rfl⟩

theorem storeNew_calls (w : World) : Calls Tryz.prog 51 #[] w
    fun e w' => e = .returned (.pointer (some ⟨w.heap.size + 1, 0, none⟩)) ∧ w' = (w.alloc (.map #[] 0)).alloc (.cells #[.map (some w.heap.size), .int .i64 0] 124) := by
  have hmm := @run_makeMap Tryz.prog
  go_enter Tryz.func51, Tryz.ntmps51
  go_wp2
  go_ret
  exact ⟨by simp, rfl⟩

/-- A host: its map of providers, its store (empty), its tick. -/
structure HostAt (w : World) (h m s sm n : Nat) (D : DataW Value) (now : Int) : Prop where
  cells : w.heap[h]? = some (.cells #[.map (some m), .pointer (some ⟨s, 0, none⟩), .int .i64 now] 83 (0, 0))
  map : w.ownsMap Tryz.prog 9 selfElem m n D
  store : w.heap[s]? = some (.cells #[.map (some sm), .int .i64 0] 124 (0, 0))
  smap : w.ownsMap Tryz.prog 40 selfElem sm 0 (.map [])
  apart : m < sm ∧ sm < s ∧ s < h

theorem HostAt.ext {w w' : World} (hx : Ext w w') {h m s sm n : Nat} {D : DataW Value} {now : Int} (H : HostAt w h m s sm n D now) : HostAt w' h m s sm n D now :=
  ⟨(hx.heap (Array.getElem?_eq_some_iff.1 H.cells).1).trans H.cells, own_ext hx H.map, (hx.heap (Array.getElem?_eq_some_iff.1 H.store).1).trans H.store, own_ext hx H.smap, H.apart⟩

theorem hostNew_calls (w : World) : Calls Tryz.prog 20 #[] w
    fun e w' => ∃ h m s sm, e = .returned (.pointer (some ⟨h, 0, none⟩)) ∧ w.heap.size ≤ m ∧ HostAt w' h m s sm 0 (.map []) 0 ∧ Ext w w' := by
  have hmm := @run_makeMap Tryz.prog
  go_enter Tryz.func20, Tryz.ntmps20
  go_wp2_with (go_at_call 51; refine (storeNew_calls _).mono ?_; rintro e w2 ⟨rfl, rfl⟩)
  go_ret
  refine ⟨w.heap.size + 3, w.heap.size, w.heap.size + 2, w.heap.size + 1, by simp, Nat.le_refl _, ?_, (by repeat (first | exact Ext.refl _ | assumption | refine Ext.alloc ?_ _ | refine Ext.drew ?_ | refine Ext.setCell ?_ (by simp) _ | refine Ext.trans ?_ (by assumption)))⟩
  have o1 := World.ownsMap_made (H := Value) w Tryz.prog 9 selfElem
  have o2 := World.ownsMap_made (H := Value) (w.alloc (.map #[] 0)) Tryz.prog 40 selfElem
  have e2 := heap_new ((w.alloc (.map #[] 0)).alloc (.map #[] 0)) (.cells #[.map (some (w.heap.size + 1)), .int .i64 0] 124)
  have e3 := heap_new (((w.alloc (.map #[] 0)).alloc (.map #[] 0)).alloc (.cells #[.map (some (w.heap.size + 1)), .int .i64 0] 124)) (.cells #[.map (some w.heap.size), .pointer (some ⟨w.heap.size + 2, 0, none⟩), .int .i64 0] 83)
  have s1 : (w.alloc (.map #[] 0)).heap.size = w.heap.size + 1 := by simp
  have s2 : ((w.alloc (.map #[] 0)).alloc (.map #[] 0)).heap.size = w.heap.size + 2 := by simp
  have s3 : (((w.alloc (.map #[] 0)).alloc (.map #[] 0)).alloc (.cells #[.map (some (w.heap.size + 1)), .int .i64 0] 124)).heap.size = w.heap.size + 3 := by simp
  rw [s1] at o2; rw [s2] at e2; rw [s3] at e3
  exact ⟨e3, own_ext (((Ext.refl _).alloc _).alloc _ |>.alloc _) o1, (Below.heap_alloc _ _ _ (by rw [s3]; omega)).trans e2, own_ext (((Ext.refl _).alloc _).alloc _) o2, by omega⟩
end Go.Proofs.YtamcfjjnaolpmaaGreatDoor
