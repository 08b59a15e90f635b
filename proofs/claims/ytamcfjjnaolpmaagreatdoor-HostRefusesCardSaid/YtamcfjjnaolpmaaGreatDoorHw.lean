/- The addresses of an empty store. -/
import Derived.RangeFuncNested
import Derived.RangeFuncBound
import Derived.RangeFuncCalls
import Derived.RangeFuncLeaves
import Derived.RangeFuncFrom
import Derived.Shelf.Abstract
import Derived.Shelf.RegionOpen
import Derived.OwnWalkIn
import Derived.TacticsInMore
import Derived.LoopNIn
import Derived.LoopIn
import Derived.DeepKeys4
import Derived.Test.YtamcfjjnaolpmaaGreatDoorHb
import Derived.Maps.RangeWalk
namespace Go.Proofs.YtamcfjjnaolpmaaGreatDoor
open Go.RowKit Go.Shelf
set_option maxRecDepth 100000

theorem hlaidOut : laidOutB Tryz.prog = true := by kernel_rfl
theorem haddrRow : (40 : TypeId) < Tryz.prog.types.size := of_decide_eq_true (by kernel_rfl)
theorem haddrWide : (match Tryz.prog.underlying 40 with | some (.array _ _) | some (.struct _) => true | _ => false) = true := by rw [Tryz.underlying40]
theorem haddr_keyed : Maps.Keyed Tryz.prog 40 := Maps.Keyed.of_law (deep_law_laid hlaidOut (m := 4) (by omega) haddrRow (by kernel_rfl) haddrWide)


set_option maxHeartbeats 1000000 in
theorem aiter {w : World} {l b n : Nat} (hl : w.cell? ⟨l, 0, none⟩ = some (.map (some b))) (hm : w.ownsMap Tryz.prog 40 selfElem b n (.map [])) (y : Value) :
    Calls Tryz.prog 261 #[y, .pointer (some ⟨l, 0, none⟩)] w fun e w' => e = .returned (.tuple #[]) ∧ w.grownBy w' none := by
  have HM := Lib.hid hm
  clear hm
  go_enter Tryz.func261, Tryz.ntmps261
  go_wp2_with (at_range; refine wpList_range_own _ rfl _ 122 rfl 40 72 haddr_keyed Tryz.underlying122 selfElem b n _ rfl HM.out ?_; intro w0 hrg0 hg0 hs0)
  go_frame
  go_loopw [6] (fun _ wr => wr = w0) (fun _ _ => 0)
  case atStart => rfl
  case round =>
    obtain rfl := hrel
    go_wp2_with (at_next; refine wpList_next_ranges _ rfl _ rfl 40 haddr_keyed selfElem id id (fun key _ _ => ⟨key, rfl⟩) (fun v _ _ => ⟨v, rfl⟩) b w.heap.size n _ _ _ rfl hrg0 ?_ ?_)
    · intro _ _
      go_wp2
      go_end0
      exact ⟨rfl, hg0⟩
    · intro x c kl yd yp w1 cnt1 _ _ _ _ _ hlt _ _ _
      exact absurd hlt (by intro h; exact Nat.not_lt_zero _ h)

theorem aseq {w : World} {l b n : Nat} (hl : w.heap[l]? = some (.cells #[.map (some b)] 122 (0, 0))) (hm : w.ownsMap Tryz.prog 40 selfElem b n (.map [])) (k : Nat) :
    SeqStopsA (α := Empty) Fence.wide k Tryz.prog 261 #[.pointer (some ⟨l, 0, none⟩)] (fun x => x.elim) (fun _ => True) (fun _ => False) 0 w := by
  intro lp J Jx W hW hJ _ _ h0
  have hl' : W.cell? ⟨l, 0, none⟩ = some (.map (some b)) := by
    have e := (hW.block l (Array.getElem?_eq_some_iff.1 hl).1).trans hl
    simp [World.cell?, e]
  refine (callsIn_wide.2 (aiter hl' (own_ext (show Ext w W from hW) hm) _)).mono ?_
  rintro e W' ⟨rfl, hg⟩
  exact ⟨⟨_, rfl⟩, .inl ⟨[], trivial, hJ [] W W' none h0 hg (fun r e => by cases e)⟩⟩

attribute [local go_sem] Oper.semAt_some

set_option maxHeartbeats 2000000 in
theorem aappend {w : World} {l b n : Nat} (hl : w.heap[l]? = some (.cells #[.map (some b)] 122 (0, 0))) (hm : w.ownsMap Tryz.prog 40 selfElem b n (.map [])) :
    CallsIn Fence.wide 4 Tryz.prog 260 #[.slice none 0 0, .func (.func 261) #[] #[.pointer (some ⟨l, 0, none⟩)]] w
      fun e w' => e = .returned (.slice none 0 0) ∧ Below w.heap.size w w' := by
  have hll := (Array.getElem?_eq_some_iff.1 hl).1
  have HA := Lib.hid (aseq ((Below.heap_alloc w (.cells #[.slice none 0 0] 43) l hll).trans hl) (own_ext ((Ext.refl w).alloc _) hm) 3)
  refine callsIn_of_wp_marks Tryz.func260 rfl trivial ?_ rfl
  simp only [Tryz.ntmps260, List.size_toArray, List.length_cons, List.length_nil, Nat.reduceAdd, Nat.reduceSub, Array.replicate_succ, Array.replicate_zero, List.push_toArray, List.append_toArray, List.nil_append, List.cons_append]
  gi_wp2
  have hB0 := World.alloc_heap_new w (.cells #[.slice none 0 0] 43)
  have hBW : Below w.heap.size w (w.alloc (.cells #[.slice none 0 0] 43)) := (Below.refl _ w).alloc (Nat.le_refl _) _
  have hs0 : (w.alloc (.cells #[.slice none 0 0] 43)).heap.size = w.heap.size + 1 := by simp
  generalize w.alloc (.cells #[.slice none 0 0] 43) = W0 at *
  refine wpIn_rangeFunc_ownH (α := Empty) rfl (by omega) (gf := 261) (lb := #[.pointer (some ⟨l, 0, none⟩)]) rfl trivial (enters_of Tryz.func261 (by kernel_rfl) rfl)
    (seqStopsA_iff.1 HA.out) walksK_t walksK_b (Below.refl _ _) (fun x => x.elim)
    (fun _ W => W.cell? ⟨w.heap.size, 0, none⟩ = some (.slice none 0 0) ∧ Below w.heap.size w W) (fun _ _ _ => False)
    (OwnFrom.and (Own.from (fun s A B row hs hg hr => cell_kept hs hg hr) _) (ownFrom_below (Nat.le_refl _) (by omega)))
    (fun _ _ _ _ _ hs _ _ => hs.elim) ⟨by simp [World.cell?, hB0], hBW⟩ (fun x _ _ => x.elim) (fun x _ => x.elim) ?assign ?body ?done ?stop
  case assign => exact fun _ _ x => x.elim
  case body => exact fun _ _ x => x.elim
  case done =>
    rintro D xs W hD _ ⟨hc, hB⟩ hK
    gi_wp2
    refine ⟨by simp, .inl ⟨_, _, rfl, run_takeDeferred hK, ?_⟩⟩
    exact ⟨_, results_tmp rfl _ _ _, rfl, hB.trans (belowK_b (w := w) (Nat.le_refl _) W D _ _ (by omega) hK rfl rfl)⟩
  case stop => exact fun _ _ _ _ _ h => h.elim

theorem acollect {w : World} {l b n : Nat} (hl : w.heap[l]? = some (.cells #[.map (some b)] 122 (0, 0))) (hm : w.ownsMap Tryz.prog 40 selfElem b n (.map [])) :
    Calls Tryz.prog 214 #[.func (.func 261) #[] #[.pointer (some ⟨l, 0, none⟩)]] w
      fun e w' => e = .returned (.slice none 0 0) ∧ Ext w w' := by
  have HA := Lib.hid (callsIn_wide.1 (aappend hl hm))
  go_enter Tryz.func214, Tryz.ntmps214
  go_wp2_with (go_at_call 260; refine HA.out.mono ?_; rintro e w1 ⟨rfl, hb⟩)
  go_ret
  exact ⟨rfl, hb⟩

theorem akeys {w : World} (b : Nat) : Calls Tryz.prog 215 #[.map (some b)] w
    fun e w' => e = .returned (.func (.func 261) #[] #[.pointer (some ⟨w.heap.size, 0, none⟩)]) ∧ w' = w.alloc (.cells #[.map (some b)] 122) := by
  go_enter Tryz.func215, Tryz.ntmps215
  go_wp2
  go_ret
  exact ⟨rfl, rfl⟩
end Go.Proofs.YtamcfjjnaolpmaaGreatDoor
