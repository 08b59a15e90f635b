/- Add of package host; the example of its statements. -/
import Derived.Test.YtamcfjjnaolpmaaGreatDoorHc
namespace Go.Proofs.YtamcfjjnaolpmaaGreatDoor
open Go.RowKit
set_option maxRecDepth 100000

set_option maxHeartbeats 2000000 in
theorem take_calls {w : World} {r p h : Nat} (hr : w.heap[r]? = some (runObj p h (.slice none 0 0))) {name : ByteArray} (hn : w.cell? ⟨p, 1, none⟩ = some (.string name)) {lv : Value} (hl : Slc w 10 lv 1 spawnCells) :
    Calls Tryz.prog 31 #[.pointer (some ⟨r, 0, none⟩), lv] w
      fun e w' => e = .returned (.tuple #[]) ∧ ∃ v, w'.heap[r]? = some (runObj p h v) ∧ Slc w' 20 v 1 (outCells name 0).toList ∧ w.grownBy w' (some r) := by
  obtain ⟨_, a, cap, rfl, l1, l2, l3⟩ := hl
  obtain ⟨ab, ao, rfl, hac⟩ := l3 (by omega)
  have e0 : w.cell? ⟨ab, ao, none⟩ = some (.int .i64 0) := hac 0 _ rfl
  have e1 := hac 1 (.slice none 0 0) rfl
  have e2 := hac 2 (.int .i64 0) rfl
  have e3 := hac 3 (.slice none 0 0) rfl
  have e4 := hac 4 .nilIface rfl
  have e5 := hac 5 (.slice none 0 0) rfl
  have e6 := hac 6 (.slice none 0 0) rfl
  have e7 := hac 7 (.slice none 0 0) rfl
  have e8 := hac 8 (.int .i64 0) rfl
  have e9 := hac 9 (.int .i64 0) rfl
  have hrl : r < w.heap.size := (Array.getElem?_eq_some_iff.1 hr).1
  have HR := Lib.hid hr
  have HN := Lib.hid hn
  clear hac l3 hr hn
  unfold maxLen at l2
  go_enter Tryz.func31, Tryz.ntmps31
  go_wp2
  go_loopw [8] (fun i wr => (i = .int .i64 0 ∧ wr = w) ∨ (i = .int .i64 1 ∧ Hid (∃ v, wr.heap[r]? = some (runObj p h v) ∧ Slc wr 20 v 1 (outCells name 0).toList ∧ w.grownBy wr (some r)))) (fun i _ => 1 - (intOf i).toNat)
  case atStart => exact .inl ⟨rfl, rfl⟩
  case round =>
    rcases hrel with ⟨rfl, rfl⟩ | ⟨rfl, hd⟩
    · go_wp2_with (go_at_call 58; refine (tell_calls (r := r) (p := p) (h := h) (name := name) ((Below.heap_alloc _ _ _ hrl).trans HR.out) (Lib.cell?_alloc_some _ HN.out) 0).mono ?_; rintro e w2 ⟨rfl, v, hv1, hv2, hv3⟩)
      go_roundw
      case rel => exact .inr ⟨rfl, v, hv1, hv2, grown_trans (grown_alloc (grown_refl _ _) _) hv3⟩
      case measure => simp [intOf]
    · go_wp2
      go_end0
      exact ⟨rfl, hd.out⟩
end Go.Proofs.YtamcfjjnaolpmaaGreatDoor
