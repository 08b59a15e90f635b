/- HostRefuses: a name that is none. -/
import Derived.Test.YtamcfjjnaolpmaaGreatDoorHr
import Derived.Deep.DeepCutAuto
namespace Go.Proofs.YtamcfjjnaolpmaaGreatDoor
open Go.RowKit
set_option maxRecDepth 100000

set_option maxHeartbeats 8000000 in
theorem refuses_unnamed (name : ByteArray) (b c t k lim wt pat : Int) (a : Option Addr) (bk bc : Nat) (n : Int) (x0 x1 x2 : ByteArray) (ix : Int) (w : World) (h1 : ¬ (60 : Int) < name.size) (h2 : ¬ (60 : Int) < bk)
    (hnm : namedB name.data.toList = false) :
    Calls Tryz.prog 4 #[.string name, .agg #[.int .i64 b, .int .i64 c, .int .i64 t, .int .i64 k, .int .i64 lim, .int .i64 wt, .int .i64 pat], .slice a bk bc, .int .i64 n, .agg #[.string x0, .string x1, .string x2, .int .i64 ix]] w
      fun e w' => e = .returned (.bool true) ∧ Ext w w' := by
  have hs : name.size ≤ 4294967296 := by omega
  have hnamed := Lib.hid (fun w => by have := refNamed name hs w; rw [hnm] at this; exact this)
  have hadd := Lib.hid (fun (W : World) (h m s sm : Nat) (H : HostAt W h m s sm 0 (.map []) 0) => add_unnamed H hs hnm b c t k lim wt pat)
  have hosz := other_size name h1
  have HOSZ := Lib.hid hosz
  have hx0 : Ext w ((w.alloc (.cells #[.int .i64 b, .int .i64 c, .int .i64 t, .int .i64 k, .int .i64 lim, .int .i64 wt, .int .i64 pat] 32)).alloc (.cells #[.string x0, .string x1, .string x2, .int .i64 ix] 59)) := ((Ext.refl w).alloc _).alloc _
  have HX0 := Lib.hid hx0
  clear hs hosz hx0
  have s1 : (w.alloc (.cells #[.int .i64 b, .int .i64 c, .int .i64 t, .int .i64 k, .int .i64 lim, .int .i64 wt, .int .i64 pat] 32)).heap.size = w.heap.size + 1 := by simp
  have hab : ∀ (i : Nat) (v : Value), (#[.string x0, .string x1, .string x2, .int .i64 ix] : Array Value)[i]? = some v → ((w.alloc (.cells #[.int .i64 b, .int .i64 c, .int .i64 t, .int .i64 k, .int .i64 lim, .int .i64 wt, .int .i64 pat] 32)).alloc (.cells #[.string x0, .string x1, .string x2, .int .i64 ix] 59)).cell? ⟨w.heap.size + 1, i, none⟩ = some v := by
    intro i v hv
    have := cells_new (w.alloc (.cells #[.int .i64 b, .int .i64 c, .int .i64 t, .int .i64 k, .int .i64 lim, .int .i64 wt, .int .i64 pat] 32)) #[.string x0, .string x1, .string x2, .int .i64 ix] 59 (i := i) (v := v) hv
    rwa [s1] at this
  have HAB := Lib.hid hab
  clear s1 hab
  go_enter Tryz.func4, Tryz.ntmps4
  go_upto_region 4 with (first
    | (go_at_call 19; refine (great26 x0 x1 x2 ix _).mono ?_; rintro e w1 ⟨⟨g, rfl⟩, hx1⟩)
    | (go_at_call 5; refine (awake_calls _).mono ?_; rintro e w2 ⟨rfl, hx2⟩)
    | (go_at_call 20; refine (hostNew_calls _).mono ?_; rintro e w3 ⟨h, m, s, sm, rfl, hm, hH, hx3⟩; have hx := (hx1.trans hx2).trans hx3; have HX3 := Lib.hid hx; have hmm : ((w.alloc (.cells #[.int .i64 b, .int .i64 c, .int .i64 t, .int .i64 k, .int .i64 lim, .int .i64 wt, .int .i64 pat] 32)).alloc (.cells #[.string x0, .string x1, .string x2, .int .i64 ix] 59)).heap.size ≤ m := Nat.le_trans (hx1.trans hx2).size hm; have HM := Lib.hid hmm; have sn0 := hx.cell_some (Lib.cell?_alloc_some (.cells #[.string x0, .string x1, .string x2, .int .i64 ix] 59) (cells_new w #[.int .i64 b, .int .i64 c, .int .i64 t, .int .i64 k, .int .i64 lim, .int .i64 wt, .int .i64 pat] 32 (i := 0) (v := .int .i64 b) rfl)); have sn1 := hx.cell_some (Lib.cell?_alloc_some (.cells #[.string x0, .string x1, .string x2, .int .i64 ix] 59) (cells_new w #[.int .i64 b, .int .i64 c, .int .i64 t, .int .i64 k, .int .i64 lim, .int .i64 wt, .int .i64 pat] 32 (i := 1) (v := .int .i64 c) rfl)); have sn2 := hx.cell_some (Lib.cell?_alloc_some (.cells #[.string x0, .string x1, .string x2, .int .i64 ix] 59) (cells_new w #[.int .i64 b, .int .i64 c, .int .i64 t, .int .i64 k, .int .i64 lim, .int .i64 wt, .int .i64 pat] 32 (i := 2) (v := .int .i64 t) rfl)); have sn3 := hx.cell_some (Lib.cell?_alloc_some (.cells #[.string x0, .string x1, .string x2, .int .i64 ix] 59) (cells_new w #[.int .i64 b, .int .i64 c, .int .i64 t, .int .i64 k, .int .i64 lim, .int .i64 wt, .int .i64 pat] 32 (i := 3) (v := .int .i64 k) rfl)); have sn4 := hx.cell_some (Lib.cell?_alloc_some (.cells #[.string x0, .string x1, .string x2, .int .i64 ix] 59) (cells_new w #[.int .i64 b, .int .i64 c, .int .i64 t, .int .i64 k, .int .i64 lim, .int .i64 wt, .int .i64 pat] 32 (i := 4) (v := .int .i64 lim) rfl)); have sn5 := hx.cell_some (Lib.cell?_alloc_some (.cells #[.string x0, .string x1, .string x2, .int .i64 ix] 59) (cells_new w #[.int .i64 b, .int .i64 c, .int .i64 t, .int .i64 k, .int .i64 lim, .int .i64 wt, .int .i64 pat] 32 (i := 5) (v := .int .i64 wt) rfl)); have sn6 := hx.cell_some (Lib.cell?_alloc_some (.cells #[.string x0, .string x1, .string x2, .int .i64 ix] 59) (cells_new w #[.int .i64 b, .int .i64 c, .int .i64 t, .int .i64 k, .int .i64 lim, .int .i64 wt, .int .i64 pat] 32 (i := 6) (v := .int .i64 pat) rfl)); have an0 := hx.cell_some (HAB.out 0 (.string x0) rfl); have an1 := hx.cell_some (HAB.out 1 (.string x1) rfl); have an2 := hx.cell_some (HAB.out 2 (.string x2) rfl); have an3 := hx.cell_some (HAB.out 3 (.int .i64 ix) rfl); clear hx hx1 hx2 hx3 hm hmm))
  all_goals first
    | (go_ret
       exact ⟨rfl, (by repeat (first | exact Ext.refl _ | assumption | refine Ext.alloc ?_ _ | refine Ext.drew ?_ | refine Ext.setCell ?_ (by simp) _ | refine Ext.trans ?_ (by assumption)))⟩)
    | skip
  have HH3 := Lib.hid hH
  go_upto_region 5 with (go_at_call 6; refine (hadd.out _ h m s sm hH).mono ?_; rintro e w4 ⟨rfl, hx4⟩; have HX4 := Lib.hid hx4; have sa0 := (HX3.out.trans hx4).cell_some (Lib.cell?_alloc_some (.cells #[.string x0, .string x1, .string x2, .int .i64 ix] 59) (cells_new w #[.int .i64 b, .int .i64 c, .int .i64 t, .int .i64 k, .int .i64 lim, .int .i64 wt, .int .i64 pat] 32 (i := 0) (v := .int .i64 b) rfl)); have sa1 := (HX3.out.trans hx4).cell_some (Lib.cell?_alloc_some (.cells #[.string x0, .string x1, .string x2, .int .i64 ix] 59) (cells_new w #[.int .i64 b, .int .i64 c, .int .i64 t, .int .i64 k, .int .i64 lim, .int .i64 wt, .int .i64 pat] 32 (i := 1) (v := .int .i64 c) rfl)); have sa2 := (HX3.out.trans hx4).cell_some (Lib.cell?_alloc_some (.cells #[.string x0, .string x1, .string x2, .int .i64 ix] 59) (cells_new w #[.int .i64 b, .int .i64 c, .int .i64 t, .int .i64 k, .int .i64 lim, .int .i64 wt, .int .i64 pat] 32 (i := 2) (v := .int .i64 t) rfl)); have sa3 := (HX3.out.trans hx4).cell_some (Lib.cell?_alloc_some (.cells #[.string x0, .string x1, .string x2, .int .i64 ix] 59) (cells_new w #[.int .i64 b, .int .i64 c, .int .i64 t, .int .i64 k, .int .i64 lim, .int .i64 wt, .int .i64 pat] 32 (i := 3) (v := .int .i64 k) rfl)); have sa4 := (HX3.out.trans hx4).cell_some (Lib.cell?_alloc_some (.cells #[.string x0, .string x1, .string x2, .int .i64 ix] 59) (cells_new w #[.int .i64 b, .int .i64 c, .int .i64 t, .int .i64 k, .int .i64 lim, .int .i64 wt, .int .i64 pat] 32 (i := 4) (v := .int .i64 lim) rfl)); have sa5 := (HX3.out.trans hx4).cell_some (Lib.cell?_alloc_some (.cells #[.string x0, .string x1, .string x2, .int .i64 ix] 59) (cells_new w #[.int .i64 b, .int .i64 c, .int .i64 t, .int .i64 k, .int .i64 lim, .int .i64 wt, .int .i64 pat] 32 (i := 5) (v := .int .i64 wt) rfl)); have sa6 := (HX3.out.trans hx4).cell_some (Lib.cell?_alloc_some (.cells #[.string x0, .string x1, .string x2, .int .i64 ix] 59) (cells_new w #[.int .i64 b, .int .i64 c, .int .i64 t, .int .i64 k, .int .i64 lim, .int .i64 wt, .int .i64 pat] 32 (i := 6) (v := .int .i64 pat) rfl)); have aa0 := (HX3.out.trans hx4).cell_some (HAB.out 0 (.string x0) rfl); have aa1 := (HX3.out.trans hx4).cell_some (HAB.out 1 (.string x1) rfl); have aa2 := (HX3.out.trans hx4).cell_some (HAB.out 2 (.string x2) rfl); have aa3 := (HX3.out.trans hx4).cell_some (HAB.out 3 (.int .i64 ix) rfl); clear hx4)
  go_cut [14] (fun s14 wx => (∃ r : Bool, s14 = .bool r) ∧ Hid (Ext w4 wx))
  case first =>
    by_cases hR : RightR b c t k
    · have HR := Lib.hid hR
      clear hR
      go_wp2_with (go_at_call 21; refine (right_yes HR.out _).mono ?_; rintro e w5 ⟨rfl, hx5⟩; have sr0 := (HX3.out.trans (HX4.out.trans hx5)).cell_some (Lib.cell?_alloc_some (.cells #[.string x0, .string x1, .string x2, .int .i64 ix] 59) (cells_new w #[.int .i64 b, .int .i64 c, .int .i64 t, .int .i64 k, .int .i64 lim, .int .i64 wt, .int .i64 pat] 32 (i := 0) (v := .int .i64 b) rfl)); have sr1 := (HX3.out.trans (HX4.out.trans hx5)).cell_some (Lib.cell?_alloc_some (.cells #[.string x0, .string x1, .string x2, .int .i64 ix] 59) (cells_new w #[.int .i64 b, .int .i64 c, .int .i64 t, .int .i64 k, .int .i64 lim, .int .i64 wt, .int .i64 pat] 32 (i := 1) (v := .int .i64 c) rfl)); have sr2 := (HX3.out.trans (HX4.out.trans hx5)).cell_some (Lib.cell?_alloc_some (.cells #[.string x0, .string x1, .string x2, .int .i64 ix] 59) (cells_new w #[.int .i64 b, .int .i64 c, .int .i64 t, .int .i64 k, .int .i64 lim, .int .i64 wt, .int .i64 pat] 32 (i := 2) (v := .int .i64 t) rfl)); have sr3 := (HX3.out.trans (HX4.out.trans hx5)).cell_some (Lib.cell?_alloc_some (.cells #[.string x0, .string x1, .string x2, .int .i64 ix] 59) (cells_new w #[.int .i64 b, .int .i64 c, .int .i64 t, .int .i64 k, .int .i64 lim, .int .i64 wt, .int .i64 pat] 32 (i := 3) (v := .int .i64 k) rfl)); have sr4 := (HX3.out.trans (HX4.out.trans hx5)).cell_some (Lib.cell?_alloc_some (.cells #[.string x0, .string x1, .string x2, .int .i64 ix] 59) (cells_new w #[.int .i64 b, .int .i64 c, .int .i64 t, .int .i64 k, .int .i64 lim, .int .i64 wt, .int .i64 pat] 32 (i := 4) (v := .int .i64 lim) rfl)); have sr5 := (HX3.out.trans (HX4.out.trans hx5)).cell_some (Lib.cell?_alloc_some (.cells #[.string x0, .string x1, .string x2, .int .i64 ix] 59) (cells_new w #[.int .i64 b, .int .i64 c, .int .i64 t, .int .i64 k, .int .i64 lim, .int .i64 wt, .int .i64 pat] 32 (i := 5) (v := .int .i64 wt) rfl)); have sr6 := (HX3.out.trans (HX4.out.trans hx5)).cell_some (Lib.cell?_alloc_some (.cells #[.string x0, .string x1, .string x2, .int .i64 ix] 59) (cells_new w #[.int .i64 b, .int .i64 c, .int .i64 t, .int .i64 k, .int .i64 lim, .int .i64 wt, .int .i64 pat] 32 (i := 6) (v := .int .i64 pat) rfl)); have ar0 := (HX3.out.trans (HX4.out.trans hx5)).cell_some (HAB.out 0 (.string x0) rfl); have ar1 := (HX3.out.trans (HX4.out.trans hx5)).cell_some (HAB.out 1 (.string x1) rfl); have ar2 := (HX3.out.trans (HX4.out.trans hx5)).cell_some (HAB.out 2 (.string x2) rfl); have ar3 := (HX3.out.trans (HX4.out.trans hx5)).cell_some (HAB.out 3 (.int .i64 ix) rfl))
      all_goals
        go_meet
        case rel => exact ⟨⟨_, rfl⟩, hx5⟩
    · have HR := Lib.hid hR
      clear hR
      go_wp2_with (go_at_call 21; refine (right_no HR.out _).mono ?_; rintro e w5 ⟨rfl, hx5⟩; have sr0 := (HX3.out.trans (HX4.out.trans hx5)).cell_some (Lib.cell?_alloc_some (.cells #[.string x0, .string x1, .string x2, .int .i64 ix] 59) (cells_new w #[.int .i64 b, .int .i64 c, .int .i64 t, .int .i64 k, .int .i64 lim, .int .i64 wt, .int .i64 pat] 32 (i := 0) (v := .int .i64 b) rfl)); have sr1 := (HX3.out.trans (HX4.out.trans hx5)).cell_some (Lib.cell?_alloc_some (.cells #[.string x0, .string x1, .string x2, .int .i64 ix] 59) (cells_new w #[.int .i64 b, .int .i64 c, .int .i64 t, .int .i64 k, .int .i64 lim, .int .i64 wt, .int .i64 pat] 32 (i := 1) (v := .int .i64 c) rfl)); have sr2 := (HX3.out.trans (HX4.out.trans hx5)).cell_some (Lib.cell?_alloc_some (.cells #[.string x0, .string x1, .string x2, .int .i64 ix] 59) (cells_new w #[.int .i64 b, .int .i64 c, .int .i64 t, .int .i64 k, .int .i64 lim, .int .i64 wt, .int .i64 pat] 32 (i := 2) (v := .int .i64 t) rfl)); have sr3 := (HX3.out.trans (HX4.out.trans hx5)).cell_some (Lib.cell?_alloc_some (.cells #[.string x0, .string x1, .string x2, .int .i64 ix] 59) (cells_new w #[.int .i64 b, .int .i64 c, .int .i64 t, .int .i64 k, .int .i64 lim, .int .i64 wt, .int .i64 pat] 32 (i := 3) (v := .int .i64 k) rfl)); have sr4 := (HX3.out.trans (HX4.out.trans hx5)).cell_some (Lib.cell?_alloc_some (.cells #[.string x0, .string x1, .string x2, .int .i64 ix] 59) (cells_new w #[.int .i64 b, .int .i64 c, .int .i64 t, .int .i64 k, .int .i64 lim, .int .i64 wt, .int .i64 pat] 32 (i := 4) (v := .int .i64 lim) rfl)); have sr5 := (HX3.out.trans (HX4.out.trans hx5)).cell_some (Lib.cell?_alloc_some (.cells #[.string x0, .string x1, .string x2, .int .i64 ix] 59) (cells_new w #[.int .i64 b, .int .i64 c, .int .i64 t, .int .i64 k, .int .i64 lim, .int .i64 wt, .int .i64 pat] 32 (i := 5) (v := .int .i64 wt) rfl)); have sr6 := (HX3.out.trans (HX4.out.trans hx5)).cell_some (Lib.cell?_alloc_some (.cells #[.string x0, .string x1, .string x2, .int .i64 ix] 59) (cells_new w #[.int .i64 b, .int .i64 c, .int .i64 t, .int .i64 k, .int .i64 lim, .int .i64 wt, .int .i64 pat] 32 (i := 6) (v := .int .i64 pat) rfl)); have ar0 := (HX3.out.trans (HX4.out.trans hx5)).cell_some (HAB.out 0 (.string x0) rfl); have ar1 := (HX3.out.trans (HX4.out.trans hx5)).cell_some (HAB.out 1 (.string x1) rfl); have ar2 := (HX3.out.trans (HX4.out.trans hx5)).cell_some (HAB.out 2 (.string x2) rfl); have ar3 := (HX3.out.trans (HX4.out.trans hx5)).cell_some (HAB.out 3 (.int .i64 ix) rfl))
      all_goals
        go_meet
        case rel => exact ⟨⟨_, rfl⟩, hx5⟩
  case rest =>
    obtain ⟨⟨r, rfl⟩, hx5⟩ := hcut
    cases r with
    | false =>
      have HX5 := Lib.hid hx5.out
      clear hx5
      go_upto_region 14 with (first
        | (go_at_call 22; refine (hnamed.out _).mono ?_; rintro e w6 ⟨rfl, rfl⟩)
        | (go_at_call 18; refine (names0 (HH3.out.ext (HX4.out.trans HX5.out))).mono ?_; rintro e w7 ⟨na, nc, rfl, hx7⟩; have HX7 := Lib.hid hx7; clear hx7))
      have HXB := Lib.hid (HX3.out.trans ((HX4.out.trans HX5.out).trans HX7.out))
      have H7 := Lib.hid (HH3.out.ext ((HX4.out.trans HX5.out).trans HX7.out))
      have hF := Lib.hid (fun W (hx : Ext w7 W) => feed_no (H7.out.ext hx) HOSZ.out (fun zd => rfl) a bk bc)
      have hG := Lib.hid (fun W (hx : Ext w7 W) => gone_no (H7.out.ext hx) HOSZ.out (fun zd => rfl))
      have hSp := Lib.hid (fun W (hx : Ext w7 W) => spawned_no (H7.out.ext hx) HOSZ.out (fun zd => rfl) true)
      have hSt := Lib.hid (fun W (hx : Ext w7 W) => state_no (H7.out.ext hx) HOSZ.out (fun zd => rfl))
      have hDo := Lib.hid (fun W (hx : Ext w7 W) => do_no (H7.out.ext hx) HOSZ.out (fun zd => rfl) 0 x1 x2 ix)
      have hWa := Lib.hid (fun W (hx : Ext w7 W) => waiting_no (H7.out.ext hx) HOSZ.out (fun zd => rfl))
      have hBu := Lib.hid (fun W (hx : Ext w7 W) => busy_no (H7.out.ext hx) HOSZ.out (fun zd => rfl))
      go_upto_region 30 with (first
        | (go_at_call 9; refine (hF.out _ (by repeat (first | exact Ext.refl _ | assumption | refine Ext.alloc ?_ _ | refine Ext.drew ?_ | refine Ext.setCell ?_ (by simp) _ | refine Ext.trans ?_ (by assumption)))).mono ?_; rintro e w8 ⟨rfl, hx8⟩)
        | (go_at_call 10; refine (hG.out _ (by repeat (first | exact Ext.refl _ | assumption | refine Ext.alloc ?_ _ | refine Ext.drew ?_ | refine Ext.setCell ?_ (by simp) _ | refine Ext.trans ?_ (by assumption)))).mono ?_; rintro e w9 ⟨rfl, hx9⟩)
        | (go_at_call 8; refine (hSp.out _ (by repeat (first | exact Ext.refl _ | assumption | refine Ext.alloc ?_ _ | refine Ext.drew ?_ | refine Ext.setCell ?_ (by simp) _ | refine Ext.trans ?_ (by assumption)))).mono ?_; rintro e wa ⟨rfl, hxa⟩; have hxc := (hx8.trans hx9).trans hxa; have sc0 := (HXB.out.trans hxc).cell_some (Lib.cell?_alloc_some (.cells #[.string x0, .string x1, .string x2, .int .i64 ix] 59) (cells_new w #[.int .i64 b, .int .i64 c, .int .i64 t, .int .i64 k, .int .i64 lim, .int .i64 wt, .int .i64 pat] 32 (i := 0) (v := .int .i64 b) rfl)); have sc1 := (HXB.out.trans hxc).cell_some (Lib.cell?_alloc_some (.cells #[.string x0, .string x1, .string x2, .int .i64 ix] 59) (cells_new w #[.int .i64 b, .int .i64 c, .int .i64 t, .int .i64 k, .int .i64 lim, .int .i64 wt, .int .i64 pat] 32 (i := 1) (v := .int .i64 c) rfl)); have sc2 := (HXB.out.trans hxc).cell_some (Lib.cell?_alloc_some (.cells #[.string x0, .string x1, .string x2, .int .i64 ix] 59) (cells_new w #[.int .i64 b, .int .i64 c, .int .i64 t, .int .i64 k, .int .i64 lim, .int .i64 wt, .int .i64 pat] 32 (i := 2) (v := .int .i64 t) rfl)); have sc3 := (HXB.out.trans hxc).cell_some (Lib.cell?_alloc_some (.cells #[.string x0, .string x1, .string x2, .int .i64 ix] 59) (cells_new w #[.int .i64 b, .int .i64 c, .int .i64 t, .int .i64 k, .int .i64 lim, .int .i64 wt, .int .i64 pat] 32 (i := 3) (v := .int .i64 k) rfl)); have sc4 := (HXB.out.trans hxc).cell_some (Lib.cell?_alloc_some (.cells #[.string x0, .string x1, .string x2, .int .i64 ix] 59) (cells_new w #[.int .i64 b, .int .i64 c, .int .i64 t, .int .i64 k, .int .i64 lim, .int .i64 wt, .int .i64 pat] 32 (i := 4) (v := .int .i64 lim) rfl)); have sc5 := (HXB.out.trans hxc).cell_some (Lib.cell?_alloc_some (.cells #[.string x0, .string x1, .string x2, .int .i64 ix] 59) (cells_new w #[.int .i64 b, .int .i64 c, .int .i64 t, .int .i64 k, .int .i64 lim, .int .i64 wt, .int .i64 pat] 32 (i := 5) (v := .int .i64 wt) rfl)); have sc6 := (HXB.out.trans hxc).cell_some (Lib.cell?_alloc_some (.cells #[.string x0, .string x1, .string x2, .int .i64 ix] 59) (cells_new w #[.int .i64 b, .int .i64 c, .int .i64 t, .int .i64 k, .int .i64 lim, .int .i64 wt, .int .i64 pat] 32 (i := 6) (v := .int .i64 pat) rfl)); have ac0 := (HXB.out.trans hxc).cell_some (HAB.out 0 (.string x0) rfl); have ac1 := (HXB.out.trans hxc).cell_some (HAB.out 1 (.string x1) rfl); have ac2 := (HXB.out.trans hxc).cell_some (HAB.out 2 (.string x2) rfl); have ac3 := (HXB.out.trans hxc).cell_some (HAB.out 3 (.int .i64 ix) rfl); clear hx8 hx9 hxa)
        | (go_at_call 12; refine (hSt.out _ (by repeat (first | exact Ext.refl _ | assumption | refine Ext.alloc ?_ _ | refine Ext.drew ?_ | refine Ext.setCell ?_ (by simp) _ | refine Ext.trans ?_ (by assumption)))).mono ?_; rintro e wb ⟨rfl, rfl⟩)
        | (go_at_call 23; refine (addr_calls _ _ _ _ _).mono ?_; rintro e wd ⟨rfl, hxd⟩)
        | (go_at_call 11; refine (hDo.out _ (by repeat (first | exact Ext.refl _ | assumption | refine Ext.alloc ?_ _ | refine Ext.drew ?_ | refine Ext.setCell ?_ (by simp) _ | refine Ext.trans ?_ (by assumption)))).mono ?_; rintro e we ⟨rfl, hxe⟩; have hxf : Ext w7 we := (by repeat (first | exact Ext.refl _ | assumption | refine Ext.alloc ?_ _ | refine Ext.drew ?_ | refine Ext.setCell ?_ (by simp) _ | refine Ext.trans ?_ (by assumption))); clear hxc hxd hxe)
        | (go_at_call 15; refine (hWa.out _ (by repeat (first | exact Ext.refl _ | assumption | refine Ext.alloc ?_ _ | refine Ext.drew ?_ | refine Ext.setCell ?_ (by simp) _ | refine Ext.trans ?_ (by assumption)))).mono ?_; rintro e wf ⟨rfl, rfl⟩)
        | (go_at_call 16; refine (hBu.out _ (by repeat (first | exact Ext.refl _ | assumption | refine Ext.alloc ?_ _ | refine Ext.drew ?_ | refine Ext.setCell ?_ (by simp) _ | refine Ext.trans ?_ (by assumption)))).mono ?_; rintro e wg ⟨rfl, rfl⟩))
      have HX30 := Lib.hid hxf
      clear hF hG hSp hSt hDo hWa hBu hxf
      have HTK : Hid (∀ W, Ext w7 W → Calls Tryz.prog 13 #[.pointer (some ⟨h, 0, none⟩), .int .i64 n] W fun e w' => (∃ v, e = .returned v) ∧ HostAt w' h m s sm 0 (.map []) (min (max n 0) 1152921504606846976) ∧ W.grownBy w' (some h)) := by
        intro W hx
        by_cases hn : n < 1
        · have hz : min (max n 0) 1152921504606846976 = 0 := by omega
          rw [hz]
          refine (tick_lt h hn).mono ?_
          rintro e w' ⟨hv, rfl⟩
          exact ⟨hv, H7.out.ext hx, grown_refl _ _⟩
        · exact tick0 (H7.out.ext hx) hn
      go_upto_region 31 with (go_at_call 13; refine (HTK.out _ HX30.out).mono ?_; rintro e wT ⟨⟨v, rfl⟩, hT, hgT⟩)
      have HT := Lib.hid hT
      have HSt := Lib.hid (fun W (hx : Ext wT W) => store_calls (HT.out.ext hx))
      have hbe : (min (max n 0) 1152921504606846976 == min (max n 0) 1152921504606846976) = true := by simp
      clear hT
      have hal := HT.out.apart
      have hms := HM.out
      have hxw := (HX0.out.trans HXB.out).trans HX30.out
      have hz0 := HX0.out.size
      have hxT : Ext w wT := Below.grown hxw hgT hxw.size (by intro j hj; cases hj; omega)
      have HXT := Lib.hid hxT
      clear hxT hxw hz0 hms hal hgT
      go_wp2_with (first
        | (go_at_call 17; refine (now_at HT.out).mono ?_; rintro e wn ⟨rfl, rfl⟩)
        | (go_at_call 14; refine (HSt.out _ (by repeat (first | exact Ext.refl _ | assumption | refine Ext.alloc ?_ _ | refine Ext.drew ?_ | refine Ext.setCell ?_ (by simp) _ | refine Ext.trans ?_ (by assumption)))).mono ?_; rintro e wo ⟨sg, sgm, rfl, hsa, hxo⟩)
        | (go_at_call 24; refine (storeLen hsa).mono ?_; rintro e wp ⟨rfl, rfl⟩)
        | (go_at_call 25; refine (storeSerial hsa).mono ?_; rintro e wq ⟨rfl, rfl⟩))
      go_ret
      exact ⟨rfl, HXT.out.trans (by repeat (first | exact Ext.refl _ | assumption | refine Ext.alloc ?_ _ | refine Ext.drew ?_ | refine Ext.setCell ?_ (by simp) _ | refine Ext.trans ?_ (by assumption)))⟩
    | true =>
      have HX5 := Lib.hid hx5.out
      clear hx5
      go_upto_region 14 with (first
        | (go_at_call 22; refine (hnamed.out _).mono ?_; rintro e w6 ⟨rfl, rfl⟩)
        | (go_at_call 18; refine (names0 (HH3.out.ext (HX4.out.trans HX5.out))).mono ?_; rintro e w7 ⟨na, nc, rfl, hx7⟩; have HX7 := Lib.hid hx7; clear hx7))
      have HXB := Lib.hid (HX3.out.trans ((HX4.out.trans HX5.out).trans HX7.out))
      have H7 := Lib.hid (HH3.out.ext ((HX4.out.trans HX5.out).trans HX7.out))
      have hF := Lib.hid (fun W (hx : Ext w7 W) => feed_no (H7.out.ext hx) HOSZ.out (fun zd => rfl) a bk bc)
      have hG := Lib.hid (fun W (hx : Ext w7 W) => gone_no (H7.out.ext hx) HOSZ.out (fun zd => rfl))
      have hSp := Lib.hid (fun W (hx : Ext w7 W) => spawned_no (H7.out.ext hx) HOSZ.out (fun zd => rfl) true)
      have hSt := Lib.hid (fun W (hx : Ext w7 W) => state_no (H7.out.ext hx) HOSZ.out (fun zd => rfl))
      have hDo := Lib.hid (fun W (hx : Ext w7 W) => do_no (H7.out.ext hx) HOSZ.out (fun zd => rfl) 0 x1 x2 ix)
      have hWa := Lib.hid (fun W (hx : Ext w7 W) => waiting_no (H7.out.ext hx) HOSZ.out (fun zd => rfl))
      have hBu := Lib.hid (fun W (hx : Ext w7 W) => busy_no (H7.out.ext hx) HOSZ.out (fun zd => rfl))
      go_upto_region 30 with (first
        | (go_at_call 9; refine (hF.out _ (by repeat (first | exact Ext.refl _ | assumption | refine Ext.alloc ?_ _ | refine Ext.drew ?_ | refine Ext.setCell ?_ (by simp) _ | refine Ext.trans ?_ (by assumption)))).mono ?_; rintro e w8 ⟨rfl, hx8⟩)
        | (go_at_call 10; refine (hG.out _ (by repeat (first | exact Ext.refl _ | assumption | refine Ext.alloc ?_ _ | refine Ext.drew ?_ | refine Ext.setCell ?_ (by simp) _ | refine Ext.trans ?_ (by assumption)))).mono ?_; rintro e w9 ⟨rfl, hx9⟩)
        | (go_at_call 8; refine (hSp.out _ (by repeat (first | exact Ext.refl _ | assumption | refine Ext.alloc ?_ _ | refine Ext.drew ?_ | refine Ext.setCell ?_ (by simp) _ | refine Ext.trans ?_ (by assumption)))).mono ?_; rintro e wa ⟨rfl, hxa⟩; have hxc := (hx8.trans hx9).trans hxa; have sc0 := (HXB.out.trans hxc).cell_some (Lib.cell?_alloc_some (.cells #[.string x0, .string x1, .string x2, .int .i64 ix] 59) (cells_new w #[.int .i64 b, .int .i64 c, .int .i64 t, .int .i64 k, .int .i64 lim, .int .i64 wt, .int .i64 pat] 32 (i := 0) (v := .int .i64 b) rfl)); have sc1 := (HXB.out.trans hxc).cell_some (Lib.cell?_alloc_some (.cells #[.string x0, .string x1, .string x2, .int .i64 ix] 59) (cells_new w #[.int .i64 b, .int .i64 c, .int .i64 t, .int .i64 k, .int .i64 lim, .int .i64 wt, .int .i64 pat] 32 (i := 1) (v := .int .i64 c) rfl)); have sc2 := (HXB.out.trans hxc).cell_some (Lib.cell?_alloc_some (.cells #[.string x0, .string x1, .string x2, .int .i64 ix] 59) (cells_new w #[.int .i64 b, .int .i64 c, .int .i64 t, .int .i64 k, .int .i64 lim, .int .i64 wt, .int .i64 pat] 32 (i := 2) (v := .int .i64 t) rfl)); have sc3 := (HXB.out.trans hxc).cell_some (Lib.cell?_alloc_some (.cells #[.string x0, .string x1, .string x2, .int .i64 ix] 59) (cells_new w #[.int .i64 b, .int .i64 c, .int .i64 t, .int .i64 k, .int .i64 lim, .int .i64 wt, .int .i64 pat] 32 (i := 3) (v := .int .i64 k) rfl)); have sc4 := (HXB.out.trans hxc).cell_some (Lib.cell?_alloc_some (.cells #[.string x0, .string x1, .string x2, .int .i64 ix] 59) (cells_new w #[.int .i64 b, .int .i64 c, .int .i64 t, .int .i64 k, .int .i64 lim, .int .i64 wt, .int .i64 pat] 32 (i := 4) (v := .int .i64 lim) rfl)); have sc5 := (HXB.out.trans hxc).cell_some (Lib.cell?_alloc_some (.cells #[.string x0, .string x1, .string x2, .int .i64 ix] 59) (cells_new w #[.int .i64 b, .int .i64 c, .int .i64 t, .int .i64 k, .int .i64 lim, .int .i64 wt, .int .i64 pat] 32 (i := 5) (v := .int .i64 wt) rfl)); have sc6 := (HXB.out.trans hxc).cell_some (Lib.cell?_alloc_some (.cells #[.string x0, .string x1, .string x2, .int .i64 ix] 59) (cells_new w #[.int .i64 b, .int .i64 c, .int .i64 t, .int .i64 k, .int .i64 lim, .int .i64 wt, .int .i64 pat] 32 (i := 6) (v := .int .i64 pat) rfl)); have ac0 := (HXB.out.trans hxc).cell_some (HAB.out 0 (.string x0) rfl); have ac1 := (HXB.out.trans hxc).cell_some (HAB.out 1 (.string x1) rfl); have ac2 := (HXB.out.trans hxc).cell_some (HAB.out 2 (.string x2) rfl); have ac3 := (HXB.out.trans hxc).cell_some (HAB.out 3 (.int .i64 ix) rfl); clear hx8 hx9 hxa)
        | (go_at_call 12; refine (hSt.out _ (by repeat (first | exact Ext.refl _ | assumption | refine Ext.alloc ?_ _ | refine Ext.drew ?_ | refine Ext.setCell ?_ (by simp) _ | refine Ext.trans ?_ (by assumption)))).mono ?_; rintro e wb ⟨rfl, rfl⟩)
        | (go_at_call 23; refine (addr_calls _ _ _ _ _).mono ?_; rintro e wd ⟨rfl, hxd⟩)
        | (go_at_call 11; refine (hDo.out _ (by repeat (first | exact Ext.refl _ | assumption | refine Ext.alloc ?_ _ | refine Ext.drew ?_ | refine Ext.setCell ?_ (by simp) _ | refine Ext.trans ?_ (by assumption)))).mono ?_; rintro e we ⟨rfl, hxe⟩; have hxf : Ext w7 we := (by repeat (first | exact Ext.refl _ | assumption | refine Ext.alloc ?_ _ | refine Ext.drew ?_ | refine Ext.setCell ?_ (by simp) _ | refine Ext.trans ?_ (by assumption))); clear hxc hxd hxe)
        | (go_at_call 15; refine (hWa.out _ (by repeat (first | exact Ext.refl _ | assumption | refine Ext.alloc ?_ _ | refine Ext.drew ?_ | refine Ext.setCell ?_ (by simp) _ | refine Ext.trans ?_ (by assumption)))).mono ?_; rintro e wf ⟨rfl, rfl⟩)
        | (go_at_call 16; refine (hBu.out _ (by repeat (first | exact Ext.refl _ | assumption | refine Ext.alloc ?_ _ | refine Ext.drew ?_ | refine Ext.setCell ?_ (by simp) _ | refine Ext.trans ?_ (by assumption)))).mono ?_; rintro e wg ⟨rfl, rfl⟩))
      have HX30 := Lib.hid hxf
      clear hF hG hSp hSt hDo hWa hBu hxf
      have HTK : Hid (∀ W, Ext w7 W → Calls Tryz.prog 13 #[.pointer (some ⟨h, 0, none⟩), .int .i64 n] W fun e w' => (∃ v, e = .returned v) ∧ HostAt w' h m s sm 0 (.map []) (min (max n 0) 1152921504606846976) ∧ W.grownBy w' (some h)) := by
        intro W hx
        by_cases hn : n < 1
        · have hz : min (max n 0) 1152921504606846976 = 0 := by omega
          rw [hz]
          refine (tick_lt h hn).mono ?_
          rintro e w' ⟨hv, rfl⟩
          exact ⟨hv, H7.out.ext hx, grown_refl _ _⟩
        · exact tick0 (H7.out.ext hx) hn
      go_upto_region 31 with (go_at_call 13; refine (HTK.out _ HX30.out).mono ?_; rintro e wT ⟨⟨v, rfl⟩, hT, hgT⟩)
      have HT := Lib.hid hT
      have HSt := Lib.hid (fun W (hx : Ext wT W) => store_calls (HT.out.ext hx))
      have hbe : (min (max n 0) 1152921504606846976 == min (max n 0) 1152921504606846976) = true := by simp
      clear hT
      have hal := HT.out.apart
      have hms := HM.out
      have hxw := (HX0.out.trans HXB.out).trans HX30.out
      have hz0 := HX0.out.size
      have hxT : Ext w wT := Below.grown hxw hgT hxw.size (by intro j hj; cases hj; omega)
      have HXT := Lib.hid hxT
      clear hxT hxw hz0 hms hal hgT
      go_wp2_with (first
        | (go_at_call 17; refine (now_at HT.out).mono ?_; rintro e wn ⟨rfl, rfl⟩)
        | (go_at_call 14; refine (HSt.out _ (by repeat (first | exact Ext.refl _ | assumption | refine Ext.alloc ?_ _ | refine Ext.drew ?_ | refine Ext.setCell ?_ (by simp) _ | refine Ext.trans ?_ (by assumption)))).mono ?_; rintro e wo ⟨sg, sgm, rfl, hsa, hxo⟩)
        | (go_at_call 24; refine (storeLen hsa).mono ?_; rintro e wp ⟨rfl, rfl⟩)
        | (go_at_call 25; refine (storeSerial hsa).mono ?_; rintro e wq ⟨rfl, rfl⟩))
      go_ret
      exact ⟨rfl, HXT.out.trans (by repeat (first | exact Ext.refl _ | assumption | refine Ext.alloc ?_ _ | refine Ext.drew ?_ | refine Ext.setCell ?_ (by simp) _ | refine Ext.trans ?_ (by assumption)))⟩
end Go.Proofs.YtamcfjjnaolpmaaGreatDoor
