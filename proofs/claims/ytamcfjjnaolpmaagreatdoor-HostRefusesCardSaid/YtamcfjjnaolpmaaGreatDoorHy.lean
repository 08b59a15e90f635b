/- The copy of an empty store. -/
import Derived.Test.YtamcfjjnaolpmaaGreatDoorHw
import Derived.Test.YtamcfjjnaolpmaaGreatDoorHh
namespace Go.Proofs.YtamcfjjnaolpmaaGreatDoor
open Go.RowKit
set_option maxRecDepth 100000

set_option maxHeartbeats 1000000 in
theorem len64_0 (w : World) : Calls Tryz.prog 160 #[.int .u64 0] w fun e w' => (∃ n : Int, e = .returned (.int .i64 n)) ∧ w' = w := by
  go_enter Tryz.func160, Tryz.ntmps160
  go_wp2
  go_ret
  exact ⟨⟨_, rfl⟩, rfl⟩

theorem bitsLen0 (w : World) : Calls Tryz.prog 109 #[.int .u64 0] w fun e w' => (∃ n : Int, e = .returned (.int .i64 n)) ∧ w' = w := by
  go_enter Tryz.func109, Tryz.ntmps109
  go_wp2_with (go_at_call 160; refine (len64_0 _).mono ?_; rintro e w1 ⟨⟨x, rfl⟩, rfl⟩)
  go_ret
  exact ⟨⟨_, rfl⟩, rfl⟩

theorem insSort0 (f : Value) (w : World) : Calls Tryz.prog 336 #[.slice none 0 0, .int .i64 0, .int .i64 0, f] w fun e w' => e = .returned (.tuple #[]) ∧ w' = w := by
  go_enter Tryz.func336, Tryz.ntmps336
  go_wp2
  go_loop [8] (fun i => i = .int .i64 1) (fun _ => 0)
  case atStart => rfl
  case round =>
    obtain rfl := hrel
    go_wp2
    go_end0
    exact ⟨rfl, rfl⟩

set_option maxHeartbeats 1000000 in
theorem pdq0 (f : Value) (l : Int) (w : World) : Calls Tryz.prog 293 #[.slice none 0 0, .int .i64 0, .int .i64 0, .int .i64 l, f] w fun e w' => e = .returned (.tuple #[]) ∧ w' = w := by
  go_enter Tryz.func293, Tryz.ntmps293
  go_wp2
  go_loop [1, 2] (fun a b => a = .int .i64 0 ∧ b = .int .i64 0) (fun _ _ => 0)
  case atStart => exact ⟨rfl, rfl⟩
  case round =>
    obtain ⟨rfl, rfl⟩ := hrel
    go_wp2_with (go_at_call 336; refine (insSort0 _ _).mono ?_; rintro e w1 ⟨rfl, rfl⟩)
    exact bodyPost_ret (v := .tuple #[]) (by simp [results, Tryz.results293, go_sem]) rfl ⟨rfl, rfl⟩

theorem sortFunc0 (f : Value) (w : World) : Calls Tryz.prog 257 #[.slice none 0 0, f] w fun e w' => e = .returned (.tuple #[]) ∧ w' = w := by
  go_enter Tryz.func257, Tryz.ntmps257
  go_wp2_with (first
    | (go_at_call 109; refine (bitsLen0 _).mono ?_; rintro e w1 ⟨⟨x, rfl⟩, rfl⟩)
    | (go_at_call 293; refine (pdq0 _ _ _).mono ?_; rintro e w2 ⟨rfl, rfl⟩))
  go_end0
  exact ⟨rfl, rfl⟩

theorem compact0 (w : World) : Calls Tryz.prog 259 #[.slice none 0 0] w fun e w' => e = .returned (.slice none 0 0) ∧ w' = w := by
  go_enter Tryz.func259, Tryz.ntmps259
  go_wp2
  go_ret
  exact ⟨rfl, rfl⟩

theorem aclone0 (w : World) : Calls Tryz.prog 40 #[.slice none 0 0] w fun e w' => e = .returned (.slice none 0 0) ∧ w' = w := by
  have hb : ∀ w : World, (binOp BinOp.eql 43 (.slice none 0 0) (.slice none 0 0)).run Tryz.prog w = .ok (.bool true) w := fun w => by kernel_rfl
  go_enter Tryz.func40, Tryz.ntmps40
  go_wp2
  go_ret
  exact ⟨rfl, rfl⟩

theorem asort0 (w : World) : Calls Tryz.prog 213 #[.slice none 0 0] w fun e w' => e = .returned (.slice none 0 0) ∧ w' = w := by
  go_enter Tryz.func213, Tryz.ntmps213
  go_wp2_with (first
    | (go_at_call 40; refine (aclone0 _).mono ?_; rintro e w1 ⟨rfl, rfl⟩)
    | (go_at_call 257; refine (sortFunc0 _ _).mono ?_; rintro e w2 ⟨rfl, rfl⟩)
    | (go_at_call 259; refine (compact0 _).mono ?_; rintro e w3 ⟨rfl, rfl⟩))
  go_ret
  exact ⟨rfl, rfl⟩

/-- An empty store. -/
structure StoreAt (w : World) (s sm : Nat) : Prop where
  cells : w.heap[s]? = some (.cells #[.map (some sm), .int .i64 0] 124 (0, 0))
  smap : w.ownsMap Tryz.prog 40 selfElem sm 0 (.map [])
theorem StoreAt.ext {w w' : World} (hx : Ext w w') {s sm : Nat} (h : StoreAt w s sm) : StoreAt w' s sm :=
  ⟨(hx.heap (Array.getElem?_eq_some_iff.1 h.cells).1).trans h.cells, own_ext hx h.smap⟩
theorem StoreAt.facts {w : World} {s sm : Nat} (h : StoreAt w s sm) : w.cell? ⟨s, 0, none⟩ = some (.map (some sm)) ∧ w.cell? ⟨s, 1, none⟩ = some (.int .i64 0) ∧ w.frozen? ⟨s, 1, none⟩ = false := by
  have := h.cells
  refine ⟨?_, ?_, ?_⟩ <;> simp [World.cell?, World.frozen?, this]

theorem addresses0 {w : World} {s sm : Nat} (h : StoreAt w s sm) : Calls Tryz.prog 149 #[.pointer (some ⟨s, 0, none⟩)] w fun e w' => e = .returned (.slice none 0 0) ∧ Ext w w' := by
  obtain ⟨c0, c1, f1⟩ := h.facts
  have HC := Lib.hid (acollect (w := w.alloc (.cells #[.map (some sm)] 122)) (heap_new w _) (own_ext ((Ext.refl w).alloc _) h.smap))
  clear h
  go_enter Tryz.func149, Tryz.ntmps149
  go_wp2_with (first
    | (go_at_call 215; refine (akeys _).mono ?_; rintro e w1 ⟨rfl, rfl⟩)
    | (go_at_call 214; refine HC.out.mono ?_; rintro e w2 ⟨rfl, hx2⟩)
    | (go_at_call 213; refine (asort0 _).mono ?_; rintro e w3 ⟨rfl, rfl⟩))
  go_ret
  exact ⟨rfl, ((Ext.refl w).alloc _).trans hx2⟩

theorem some0 {w : World} {s sm : Nat} (h : StoreAt w s sm) (f : Value) : Calls Tryz.prog 105 #[.pointer (some ⟨s, 0, none⟩), f] w fun e w' => e = .returned (.slice none 0 0) ∧ Ext w w' := by
  have HC := Lib.hid (addresses0 h)
  clear h
  go_enter Tryz.func105, Tryz.ntmps105
  go_wp2_with (go_at_call 149; refine HC.out.mono ?_; rintro e w2 ⟨rfl, hx2⟩)
  go_loop [5, 11] (fun o i => o = .slice none 0 0 ∧ i = .int .i64 0) (fun _ _ => 0)
  case atStart => exact ⟨rfl, rfl⟩
  case round =>
    obtain ⟨rfl, rfl⟩ := hrel
    go_wp2
    go_ret
    exact ⟨rfl, hx2⟩

theorem all0 {w : World} {s sm : Nat} (h : StoreAt w s sm) : Calls Tryz.prog 73 #[.pointer (some ⟨s, 0, none⟩)] w fun e w' => e = .returned (.slice none 0 0) ∧ Ext w w' := by
  have HC := Lib.hid (some0 h)
  clear h
  go_enter Tryz.func73, Tryz.ntmps73
  go_wp2_with (go_at_call 105; refine (HC.out _).mono ?_; rintro e w2 ⟨rfl, hx2⟩)
  go_ret
  exact ⟨rfl, hx2⟩

theorem copy0 {w : World} {s sm : Nat} (h : StoreAt w s sm) : Calls Tryz.prog 46 #[.pointer (some ⟨s, 0, none⟩)] w fun e w' => ∃ g gm, e = .returned (.pointer (some ⟨g, 0, none⟩)) ∧ StoreAt w' g gm ∧ Ext w w' := by
  have hnew : StoreAt ((w.alloc (.map #[] 0)).alloc (.cells #[.map (some w.heap.size), .int .i64 0] 124)) (w.heap.size + 1) w.heap.size := by
    have e := heap_new (w.alloc (.map #[] 0)) (.cells #[.map (some w.heap.size), .int .i64 0] 124)
    have s1 : (w.alloc (.map #[] 0)).heap.size = w.heap.size + 1 := by simp
    rw [s1] at e
    exact ⟨e, own_ext ((Ext.refl _).alloc _) (World.ownsMap_made w Tryz.prog 40 selfElem)⟩
  have HN := Lib.hid hnew
  have hx1 : Ext w ((w.alloc (.map #[] 0)).alloc (.cells #[.map (some w.heap.size), .int .i64 0] 124)) := ((Ext.refl w).alloc _).alloc _
  have HS := Lib.hid (h.ext hx1)
  have HX1 := Lib.hid hx1
  clear h hnew hx1
  go_enter Tryz.func46, Tryz.ntmps46
  go_wp2_with (first
    | (go_at_call 51; refine (storeNew_calls _).mono ?_; rintro e w1 ⟨rfl, rfl⟩)
    | (go_at_call 73; refine (all0 HS.out).mono ?_; rintro e w2 ⟨rfl, hx2⟩))
  have HX2 := Lib.hid hx2
  clear hx2
  go_loop [12] (fun i => i = .int .i64 0) (fun _ => 0)
  case atStart => rfl
  case round =>
    obtain rfl := hrel
    have HS2 := Lib.hid (HS.out.ext HX2.out)
    have HN2 := Lib.hid (HN.out.ext HX2.out)
    obtain ⟨a0, a1, af⟩ := HS2.out.facts
    obtain ⟨b0, b1, bf⟩ := HN2.out.facts
    go_wp2
    go_ret
    refine ⟨w.heap.size + 1, rfl, ⟨w.heap.size, ?_, ?_⟩, ?_⟩
    · simpa using heap_set (o := 1) (v := .int .i64 0) HN2.out.cells
    · exact own_grown (grown_set (b := w.heap.size + 1) (grown_refl _ _)) (by simp) HN2.out.smap
    · exact (HX1.out.trans HX2.out).setCell (by simp) _

theorem storeLen {w : World} {s sm : Nat} (h : StoreAt w s sm) : Calls Tryz.prog 24 #[.pointer (some ⟨s, 0, none⟩)] w fun e w' => e = .returned (.int .i64 0) ∧ w' = w := by
  obtain ⟨c0, c1, f1⟩ := h.facts
  have hlen := fun ty => h.smap.len (t := 122) Tryz.underlying122 ty
  rw [show Maps.size (.map [] : DataW Value) = 0 from rfl] at hlen
  go_enter Tryz.func24, Tryz.ntmps24
  go_wp2
  go_ret
  exact ⟨rfl, rfl⟩

theorem storeSerial {w : World} {s sm : Nat} (h : StoreAt w s sm) : Calls Tryz.prog 25 #[.pointer (some ⟨s, 0, none⟩)] w fun e w' => e = .returned (.int .i64 0) ∧ w' = w := by
  obtain ⟨c0, c1, f1⟩ := h.facts
  go_enter Tryz.func25, Tryz.ntmps25
  go_wp2
  go_ret
  exact ⟨rfl, rfl⟩
end Go.Proofs.YtamcfjjnaolpmaaGreatDoor
