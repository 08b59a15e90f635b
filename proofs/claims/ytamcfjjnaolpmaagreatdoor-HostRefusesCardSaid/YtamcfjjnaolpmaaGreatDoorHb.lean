/- A keeper's start; a run's telling. -/
import Derived.Test.YtamcfjjnaolpmaaGreatDoorHa
import Derived.Laws.AppendOwn
import Derived.Deep.RegionLawGrows
namespace Go.Proofs.YtamcfjjnaolpmaaGreatDoor
open Go.RowKit
set_option maxRecDepth 100000

theorem KeepAt.facts {w : World} {k : Nat} {l t s : Int} (h : KeepAt w k l t s) : w.cell? ⟨k, 3, none⟩ = some (.int .i64 s) ∧ w.frozen? ⟨k, 3, none⟩ = false ∧ k < w.heap.size := by
  obtain ⟨p, h⟩ := h
  exact ⟨by simp [World.cell?, h], by simp [World.frozen?, h], (Array.getElem?_eq_some_iff.1 h).1⟩

theorem is_calls {w : World} {k : Nat} {lim wt st : Int} (hk : KeepAt w k lim wt st) {lv : Value} {l : List Int} (hl : Slc w 1 lv l.length (l.map (Value.int .i64))) :
    Calls Tryz.prog 56 #[.pointer (some ⟨k, 0, none⟩), lv] w fun e w' => e = .returned (.bool (decide (st ∈ l))) ∧ w' = w := by
  obtain ⟨c3, f3, hlt3⟩ := hk.facts
  obtain ⟨_, a, cap, rfl, l1, l2, l3⟩ := hl
  have L3 := Lib.hid l3
  clear l3 hk
  unfold maxLen at l2
  go_enter Tryz.func56, Tryz.ntmps56
  go_wp2
  go_loop [9] (fun i => ∃ j : Nat, j ≤ l.length ∧ i = .int .i64 j ∧ Hid (∀ q, q < j → l[q]? ≠ some st)) (fun i => l.length - (intOf i).toNat)
  case atStart => exact ⟨0, Nat.zero_le _, rfl, fun q h => absurd h (Nat.not_lt_zero _)⟩
  case round =>
    obtain ⟨j, hj, rfl, hall⟩ := hrel
    by_cases hlt : j < l.length
    · obtain ⟨ab, ao, rfl, hac⟩ := L3.out (by omega)
      have cj : w.cell? ⟨ab, ao + j, none⟩ = some (.int .i64 l[j]) := hac j _ (by simp [hlt])
      clear hac
      by_cases he : st = l[j]
      · have t1 : (st == l[j]) = true := by simp [← he]
        have hc : Hid (decide (st ∈ l) = true) := by
          unfold Hid
          rw [he]; exact decide_eq_true (List.getElem_mem hlt)
        clear he
        go_wp2
        go_ret
        exact ⟨congrArg (fun b => Ending.returned (.bool b)) hc.out.symm, rfl⟩
      · have t1 : (st == l[j]) = false := by simpa using he
        have hall' : Hid (∀ q, q < j + 1 → l[q]? ≠ some st) := by
          intro q hq
          rcases Nat.lt_succ_iff_lt_or_eq.1 hq with h | rfl
          · exact hall.out q h
          · simp [hlt, Ne.symm he]
        clear he
        go_wp2
        go_round
        case rel => exact ⟨j + 1, by omega, by go_num, hall'⟩
        case measure => simp [intOf]; omega
    · obtain rfl : j = l.length := by omega
      have hc : Hid (decide (st ∈ l) = false) := by
        refine decide_eq_false fun h => ?_
        obtain ⟨q, hq, e⟩ := List.mem_iff_getElem.1 h
        exact hall.out q hq (by simp [hq, e])
      go_wp2
      go_ret
      exact ⟨congrArg (fun b => Ending.returned (.bool b)) hc.out.symm, rfl⟩

theorem slc_new {w : World} {cs : Array Value} {t : TypeId} {B n size : Nat} {xs : List Value} (hB : w.heap.size = B) (hn : n ≤ 4294967296) (hl : xs.length = n * size) (hx : cs.toList = xs) : Slc (w.alloc (.cells cs t)) size (.slice (some ⟨B, 0, none⟩) n n) n xs := by
  subst hB; subst hx
  refine ⟨hl, _, _, rfl, Nat.le_refl _, by unfold maxLen; omega, fun _ => ⟨_, _, rfl, fun i u hu => ?_⟩⟩
  rw [Nat.zero_add]
  exact cells_new w cs t (by simpa using hu)

/-- The event that asks to spawn. -/
def spawnCells : List Value := [.int .i64 0, .slice none 0 0, .int .i64 0, .slice none 0 0, .nilIface, .slice none 0 0, .slice none 0 0, .slice none 0 0, .int .i64 0, .int .i64 0]

theorem KeepAt.start {w : World} {k : Nat} {l t s : Int} (s' : Int) (h : KeepAt w k l t s) : KeepAt (w.setCell ⟨k, 3, none⟩ (.int .i64 s')) k l t s' := by
  obtain ⟨p, h⟩ := h
  refine ⟨p, ?_⟩
  unfold World.setCell
  simp [Array.getElem?_modify, h]

theorem begin_calls {w : World} {k : Nat} {lim wt st : Int} (hk : KeepAt w k lim wt st) :
    Calls Tryz.prog 57 #[.pointer (some ⟨k, 0, none⟩)] w fun e w' => ∃ lv, e = .returned (.tuple #[lv, .int .i64 0]) ∧ Slc w' 10 lv 1 spawnCells ∧ KeepAt w' k lim wt 1 ∧ w.grownBy w' (some k) := by
  obtain ⟨c3, f3, hlt3⟩ := hk.facts
  have H := Lib.hid hk
  clear hk
  go_enter Tryz.func57, Tryz.ntmps57
  go_wp2
  go_ret2
  refine ⟨_, rfl, slc_new (by simp [World.setCell]) (by omega) rfl rfl, (H.out.start 1).ext ((Ext.refl _).alloc _), grown_alloc (grown_set (grown_refl _ _)) _⟩

theorem start_calls {w : World} {k : Nat} {lim wt : Int} (hk : KeepAt w k lim wt 0) (n : Int) :
    Calls Tryz.prog 30 #[.pointer (some ⟨k, 0, none⟩), .int .i64 n] w fun e w' => ∃ lv, e = .returned (.tuple #[lv, .int .i64 0]) ∧ Slc w' 10 lv 1 spawnCells ∧ KeepAt w' k lim wt 1 ∧ w.grownBy w' (some k) := by
  have H := Lib.hid hk
  have hk2 := Lib.hid (hk.ext ((Ext.refl w).alloc (.cells #[.int .i64 0] 3)))
  clear hk
  go_enter Tryz.func30, Tryz.ntmps30
  go_wp2_with (first
    | (go_at_call 56; go_loud (refine (is_calls (l := [0]) hk2.out (slc_new rfl (by simp) rfl rfl)).mono ?_; rintro e w2 ⟨rfl, rfl⟩))
    | (go_at_call 57; refine (begin_calls hk2.out).mono ?_; rintro e w2 ⟨lv, rfl, hs2, hk3, hg3⟩))
  go_ret2
  exact ⟨lv, rfl, hs2, hk3, grown_trans (grown_alloc (grown_refl _ _) _) hg3⟩

/-- What is told: of whom, of what kind. -/
def outCells (name : ByteArray) (kind : Int) : Array Value :=
  #[.string name, .int .i64 kind, .slice none 0 0, .int .i64 0, .int .i64 0, .string ByteArray.empty, .string ByteArray.empty, .string ByteArray.empty, .string ByteArray.empty, .int .i64 0, .int .i64 0, .nilIface, .slice none 0 0, .slice none 0 0, .bool false, .bool false, .int .i64 0, .string ByteArray.empty, .slice none 0 0, .int .i64 0]
end Go.Proofs.YtamcfjjnaolpmaaGreatDoor
