/- HostRefuses: the law. -/
import Derived.Test.YtamcfjjnaolpmaaGreatDoorHq
import Derived.Test.YtamcfjjnaolpmaaGreatDoorHkb
namespace Go.Proofs.YtamcfjjnaolpmaaGreatDoor
open Go.RowKit
set_option maxRecDepth 100000

/-- What is right of a setting, in the law's words. -/
def RightAll (b c t k lim wt pat : Int) : Prop := RightR b c t k ∧ RightS lim wt ∧ 1 ≤ pat ∧ pat ≤ 1000000

section
variable (name : ByteArray) (b c t k lim wt pat : Int) (a : Option Addr) (bk bc : Nat) (n : Int) (x0 x1 x2 : ByteArray) (ix : Int) (w : World)

theorem refuses_long (h : (60 : Int) < name.size) :
    Calls Tryz.prog 4 #[.string name, .agg #[.int .i64 b, .int .i64 c, .int .i64 t, .int .i64 k, .int .i64 lim, .int .i64 wt, .int .i64 pat], .slice a bk bc, .int .i64 n, .agg #[.string x0, .string x1, .string x2, .int .i64 ix]] w
      fun e w' => e = .returned (.bool true) ∧ Ext w w' := by
  go_enter Tryz.func4, Tryz.ntmps4
  go_wp2_with (go_at_call 5; refine (awake_calls _).mono ?_; rintro e w1 ⟨rfl, hx1⟩)
  go_ret
  exact ⟨rfl, (by repeat (first | exact Ext.refl _ | assumption | refine Ext.alloc ?_ _ | refine Ext.drew ?_ | refine Ext.setCell ?_ (by simp) _ | refine Ext.trans ?_ (by assumption)))⟩

theorem refuses_bytes (h : ¬ (60 : Int) < name.size) (h2 : (60 : Int) < bk) :
    Calls Tryz.prog 4 #[.string name, .agg #[.int .i64 b, .int .i64 c, .int .i64 t, .int .i64 k, .int .i64 lim, .int .i64 wt, .int .i64 pat], .slice a bk bc, .int .i64 n, .agg #[.string x0, .string x1, .string x2, .int .i64 ix]] w
      fun e w' => e = .returned (.bool true) ∧ Ext w w' := by
  go_enter Tryz.func4, Tryz.ntmps4
  go_wp2_with (go_at_call 5; refine (awake_calls _).mono ?_; rintro e w1 ⟨rfl, hx1⟩)
  go_ret
  exact ⟨rfl, (by repeat (first | exact Ext.refl _ | assumption | refine Ext.alloc ?_ _ | refine Ext.drew ?_ | refine Ext.setCell ?_ (by simp) _ | refine Ext.trans ?_ (by assumption)))⟩
end

theorem info_u8 : (Tryz.prog.info? 5).map (fun i => (i.zero, i.size, i.bytes)) = some (some (.int .u8 0), 1, 1) := by kernel_rfl
theorem make8193 (u : World) : ∃ o : Obj, (Instr.makeSlice 22 (.int .i64 8193) (.int .i64 8193)).run Tryz.prog u = .ok (.slice (some ⟨u.heap.size, 0, none⟩) 8193 8193) (u.alloc o) := by
  obtain ⟨i1, hi1, hz10, hz11, hz12⟩ := info_parts info_u8
  exact ⟨_, run_makeSlice (P := Tryz.prog) u 22 5 i1 (.int .u8 0) Tryz.underlying22 hi1 hz10 .i64 .i64 8193 8193 (by decide) (by decide) (by rw [hz11]; decide) (by rw [hz12]; decide) (by decide)⟩

theorem other_ne (name : ByteArray) : (name ++ (⟨#[120]⟩ : ByteArray)).data.toList ≠ name.data.toList := by
  intro h
  have := congrArg List.length h
  simp at this

theorem other_size (name : ByteArray) (h : ¬ (60 : Int) < name.size) : (name ++ (⟨#[120]⟩ : ByteArray)).size ≤ 4294967296 := by
  have : (⟨#[120]⟩ : ByteArray).size = 1 := rfl
  have : (⟨#[120]⟩ : ByteArray).size = 1 := rfl
  have : (⟨#[120]⟩ : ByteArray).size = 1 := rfl
  have : (⟨#[120]⟩ : ByteArray).size = 1 := rfl
  have : (⟨#[120]⟩ : ByteArray).size = 1 := rfl
  have : (⟨#[120]⟩ : ByteArray).size = 1 := rfl
  have : (⟨#[120]⟩ : ByteArray).size = 1 := rfl
  simp
  omega

set_option maxHeartbeats 8000000 in
theorem refuses_main (name : ByteArray) (b c t k lim wt pat : Int) (a : Option Addr) (bk bc : Nat) (n : Int) (x0 x1 x2 : ByteArray) (ix : Int) (w : World) (h1 : ¬ (60 : Int) < name.size) (h2 : ¬ (60 : Int) < bk)
    (hnm : namedB name.data.toList = true) (hr : RightAll b c t k lim wt pat) :
    Calls Tryz.prog 4 #[.string name, .agg #[.int .i64 b, .int .i64 c, .int .i64 t, .int .i64 k, .int .i64 lim, .int .i64 wt, .int .i64 pat], .slice a bk bc, .int .i64 n, .agg #[.string x0, .string x1, .string x2, .int .i64 ix]] w
      fun e w' => e = .returned (.bool true) ∧ Ext w w' := by
  have hs : name.size ≤ 4294967296 := by omega
  have hnamed := Lib.hid (fun w => by have := refNamed name hs w; rw [hnm] at this; exact this)
  have hadd := Lib.hid (fun (W : World) (h m s sm : Nat) (H : HostAt W h m s sm 0 (.map []) 0) => add_calls H hs hnm hr.1 hr.2.1 hr.2.2)
  have hone := other_ne name
  have hosz := other_size name h1
  have HNM := Lib.hid hnm
  have HBK := Lib.hid (show ¬ (8192 : Int) < bk by omega)
  have HONE := Lib.hid hone
  have HOSZ := Lib.hid hosz
  obtain ⟨hR, hS, hp1, hp2⟩ := hr
  obtain ⟨l1, l2, l3, l4⟩ := hS
  have HR := Lib.hid hR
  have HS := Lib.hid hs
  have hx0 : Ext w ((w.alloc (.cells #[.int .i64 b, .int .i64 c, .int .i64 t, .int .i64 k, .int .i64 lim, .int .i64 wt, .int .i64 pat] 32)).alloc (.cells #[.string x0, .string x1, .string x2, .int .i64 ix] 59)) := ((Ext.refl w).alloc _).alloc _
  have HX0 := Lib.hid hx0
  clear hR hs hone hosz hx0
  -- MAIN
  have s1 : (w.alloc (.cells #[.int .i64 b, .int .i64 c, .int .i64 t, .int .i64 k, .int .i64 lim, .int .i64 wt, .int .i64 pat] 32)).heap.size = w.heap.size + 1 := by simp
  have hab : ∀ (i : Nat) (v : Value), (#[.string x0, .string x1, .string x2, .int .i64 ix] : Array Value)[i]? = some v → ((w.alloc (.cells #[.int .i64 b, .int .i64 c, .int .i64 t, .int .i64 k, .int .i64 lim, .int .i64 wt, .int .i64 pat] 32)).alloc (.cells #[.string x0, .string x1, .string x2, .int .i64 ix] 59)).cell? ⟨w.heap.size + 1, i, none⟩ = some v := by
    intro i v hv
    have := cells_new (w.alloc (.cells #[.int .i64 b, .int .i64 c, .int .i64 t, .int .i64 k, .int .i64 lim, .int .i64 wt, .int .i64 pat] 32)) #[.string x0, .string x1, .string x2, .int .i64 ix] 59 (i := i) (v := v) hv
    rwa [s1] at this
  have HAB := Lib.hid hab
  clear s1 hab
  go_enter Tryz.func4, Tryz.ntmps4
  go_upto_region 4 with (first
    | (go_at_call 19; refine (great26 x0 x1 x2 ix _).mono ?_; rintro e w1 ⟨⟨g, rfl⟩, hx1⟩)
    | (go_at_call 5; refine (awake_calls _).mono ?_; rintro e w2 ⟨rfl, hx2⟩)
    | (go_at_call 20; refine (hostNew_calls _).mono ?_; rintro e w3 ⟨h, m, s, sm, rfl, hm, hH, hx3⟩; have hx := (hx1.trans hx2).trans hx3; have HX3 := Lib.hid hx; have hmm : ((w.alloc (.cells #[.int .i64 b, .int .i64 c, .int .i64 t, .int .i64 k, .int .i64 lim, .int .i64 wt, .int .i64 pat] 32)).alloc (.cells #[.string x0, .string x1, .string x2, .int .i64 ix] 59)).heap.size ≤ m := Nat.le_trans (hx1.trans hx2).size hm; have HM := Lib.hid hmm; have sn0 := hx.cell_some (Lib.cell?_alloc_some (.cells #[.string x0, .string x1, .string x2, .int .i64 ix] 59) (cells_new w #[.int .i64 b, .int .i64 c, .int .i64 t, .int .i64 k, .int .i64 lim, .int .i64 wt, .int .i64 pat] 32 (i := 0) (v := .int .i64 b) rfl)); have sn1 := hx.cell_some (Lib.cell?_alloc_some (.cells #[.string x0, .string x1, .string x2, .int .i64 ix] 59) (cells_new w #[.int .i64 b, .int .i64 c, .int .i64 t, .int .i64 k, .int .i64 lim, .int .i64 wt, .int .i64 pat] 32 (i := 1) (v := .int .i64 c) rfl)); have sn2 := hx.cell_some (Lib.cell?_alloc_some (.cells #[.string x0, .string x1, .string x2, .int .i64 ix] 59) (cells_new w #[.int .i64 b, .int .i64 c, .int .i64 t, .int .i64 k, .int .i64 lim, .int .i64 wt, .int .i64 pat] 32 (i := 2) (v := .int .i64 t) rfl)); have sn3 := hx.cell_some (Lib.cell?_alloc_some (.cells #[.string x0, .string x1, .string x2, .int .i64 ix] 59) (cells_new w #[.int .i64 b, .int .i64 c, .int .i64 t, .int .i64 k, .int .i64 lim, .int .i64 wt, .int .i64 pat] 32 (i := 3) (v := .int .i64 k) rfl)); have sn4 := hx.cell_some (Lib.cell?_alloc_some (.cells #[.string x0, .string x1, .string x2, .int .i64 ix] 59) (cells_new w #[.int .i64 b, .int .i64 c, .int .i64 t, .int .i64 k, .int .i64 lim, .int .i64 wt, .int .i64 pat] 32 (i := 4) (v := .int .i64 lim) rfl)); have sn5 := hx.cell_some (Lib.cell?_alloc_some (.cells #[.string x0, .string x1, .string x2, .int .i64 ix] 59) (cells_new w #[.int .i64 b, .int .i64 c, .int .i64 t, .int .i64 k, .int .i64 lim, .int .i64 wt, .int .i64 pat] 32 (i := 5) (v := .int .i64 wt) rfl)); have sn6 := hx.cell_some (Lib.cell?_alloc_some (.cells #[.string x0, .string x1, .string x2, .int .i64 ix] 59) (cells_new w #[.int .i64 b, .int .i64 c, .int .i64 t, .int .i64 k, .int .i64 lim, .int .i64 wt, .int .i64 pat] 32 (i := 6) (v := .int .i64 pat) rfl)); have an0 := hx.cell_some (HAB.out 0 (.string x0) rfl); have an1 := hx.cell_some (HAB.out 1 (.string x1) rfl); have an2 := hx.cell_some (HAB.out 2 (.string x2) rfl); have an3 := hx.cell_some (HAB.out 3 (.int .i64 ix) rfl); clear hx hx1 hx2 hx3 hm hmm))
  all_goals first
    | (go_ret
       exact ⟨rfl, (by repeat (first | exact Ext.refl _ | assumption | refine Ext.alloc ?_ _ | refine Ext.drew ?_ | refine Ext.setCell ?_ (by simp) _ | refine Ext.trans ?_ (by assumption)))⟩)
    | skip
  go_upto_region 14 with (first
    | (go_at_call 6; refine (hadd.out _ h m s sm hH).mono ?_; rintro e w4 ⟨lv, p, kk, q, rfl, hl, hH4, hP4, hkk, hg4⟩; obtain ⟨al, cl, rfl⟩ := Slc.is hl; have hx4 : Ext _ w4 := Below.grown HX3.out hg4 HX3.out.size (by intro j hj; cases hj; exact HM.out); have HX4 := Lib.hid hx4; have HH4 := Lib.hid hH4; have HP4 := Lib.hid hP4; have hhk : h < kk := Nat.lt_of_lt_of_le hH.facts.2.2.2.2 hkk; have HHK := Lib.hid hhk; have sa0 := hx4.cell_some (Lib.cell?_alloc_some (.cells #[.string x0, .string x1, .string x2, .int .i64 ix] 59) (cells_new w #[.int .i64 b, .int .i64 c, .int .i64 t, .int .i64 k, .int .i64 lim, .int .i64 wt, .int .i64 pat] 32 (i := 0) (v := .int .i64 b) rfl)); have sa1 := hx4.cell_some (Lib.cell?_alloc_some (.cells #[.string x0, .string x1, .string x2, .int .i64 ix] 59) (cells_new w #[.int .i64 b, .int .i64 c, .int .i64 t, .int .i64 k, .int .i64 lim, .int .i64 wt, .int .i64 pat] 32 (i := 1) (v := .int .i64 c) rfl)); have sa2 := hx4.cell_some (Lib.cell?_alloc_some (.cells #[.string x0, .string x1, .string x2, .int .i64 ix] 59) (cells_new w #[.int .i64 b, .int .i64 c, .int .i64 t, .int .i64 k, .int .i64 lim, .int .i64 wt, .int .i64 pat] 32 (i := 2) (v := .int .i64 t) rfl)); have sa3 := hx4.cell_some (Lib.cell?_alloc_some (.cells #[.string x0, .string x1, .string x2, .int .i64 ix] 59) (cells_new w #[.int .i64 b, .int .i64 c, .int .i64 t, .int .i64 k, .int .i64 lim, .int .i64 wt, .int .i64 pat] 32 (i := 3) (v := .int .i64 k) rfl)); have sa4 := hx4.cell_some (Lib.cell?_alloc_some (.cells #[.string x0, .string x1, .string x2, .int .i64 ix] 59) (cells_new w #[.int .i64 b, .int .i64 c, .int .i64 t, .int .i64 k, .int .i64 lim, .int .i64 wt, .int .i64 pat] 32 (i := 4) (v := .int .i64 lim) rfl)); have sa5 := hx4.cell_some (Lib.cell?_alloc_some (.cells #[.string x0, .string x1, .string x2, .int .i64 ix] 59) (cells_new w #[.int .i64 b, .int .i64 c, .int .i64 t, .int .i64 k, .int .i64 lim, .int .i64 wt, .int .i64 pat] 32 (i := 5) (v := .int .i64 wt) rfl)); have sa6 := hx4.cell_some (Lib.cell?_alloc_some (.cells #[.string x0, .string x1, .string x2, .int .i64 ix] 59) (cells_new w #[.int .i64 b, .int .i64 c, .int .i64 t, .int .i64 k, .int .i64 lim, .int .i64 wt, .int .i64 pat] 32 (i := 6) (v := .int .i64 pat) rfl)); have aa0 := hx4.cell_some (HAB.out 0 (.string x0) rfl); have aa1 := hx4.cell_some (HAB.out 1 (.string x1) rfl); have aa2 := hx4.cell_some (HAB.out 2 (.string x2) rfl); have aa3 := hx4.cell_some (HAB.out 3 (.int .i64 ix) rfl); clear hx4 hH4 hP4 hl hkk hg4 hhk)
    | (go_at_call 21; refine (right_yes HR.out _).mono ?_; rintro e w5 ⟨rfl, hx5⟩; have HX5 := Lib.hid hx5; have sr0 := (HX4.out.trans hx5).cell_some (Lib.cell?_alloc_some (.cells #[.string x0, .string x1, .string x2, .int .i64 ix] 59) (cells_new w #[.int .i64 b, .int .i64 c, .int .i64 t, .int .i64 k, .int .i64 lim, .int .i64 wt, .int .i64 pat] 32 (i := 0) (v := .int .i64 b) rfl)); have sr1 := (HX4.out.trans hx5).cell_some (Lib.cell?_alloc_some (.cells #[.string x0, .string x1, .string x2, .int .i64 ix] 59) (cells_new w #[.int .i64 b, .int .i64 c, .int .i64 t, .int .i64 k, .int .i64 lim, .int .i64 wt, .int .i64 pat] 32 (i := 1) (v := .int .i64 c) rfl)); have sr2 := (HX4.out.trans hx5).cell_some (Lib.cell?_alloc_some (.cells #[.string x0, .string x1, .string x2, .int .i64 ix] 59) (cells_new w #[.int .i64 b, .int .i64 c, .int .i64 t, .int .i64 k, .int .i64 lim, .int .i64 wt, .int .i64 pat] 32 (i := 2) (v := .int .i64 t) rfl)); have sr3 := (HX4.out.trans hx5).cell_some (Lib.cell?_alloc_some (.cells #[.string x0, .string x1, .string x2, .int .i64 ix] 59) (cells_new w #[.int .i64 b, .int .i64 c, .int .i64 t, .int .i64 k, .int .i64 lim, .int .i64 wt, .int .i64 pat] 32 (i := 3) (v := .int .i64 k) rfl)); have sr4 := (HX4.out.trans hx5).cell_some (Lib.cell?_alloc_some (.cells #[.string x0, .string x1, .string x2, .int .i64 ix] 59) (cells_new w #[.int .i64 b, .int .i64 c, .int .i64 t, .int .i64 k, .int .i64 lim, .int .i64 wt, .int .i64 pat] 32 (i := 4) (v := .int .i64 lim) rfl)); have sr5 := (HX4.out.trans hx5).cell_some (Lib.cell?_alloc_some (.cells #[.string x0, .string x1, .string x2, .int .i64 ix] 59) (cells_new w #[.int .i64 b, .int .i64 c, .int .i64 t, .int .i64 k, .int .i64 lim, .int .i64 wt, .int .i64 pat] 32 (i := 5) (v := .int .i64 wt) rfl)); have sr6 := (HX4.out.trans hx5).cell_some (Lib.cell?_alloc_some (.cells #[.string x0, .string x1, .string x2, .int .i64 ix] 59) (cells_new w #[.int .i64 b, .int .i64 c, .int .i64 t, .int .i64 k, .int .i64 lim, .int .i64 wt, .int .i64 pat] 32 (i := 6) (v := .int .i64 pat) rfl)); have ar0 := (HX4.out.trans hx5).cell_some (HAB.out 0 (.string x0) rfl); have ar1 := (HX4.out.trans hx5).cell_some (HAB.out 1 (.string x1) rfl); have ar2 := (HX4.out.trans hx5).cell_some (HAB.out 2 (.string x2) rfl); have ar3 := (HX4.out.trans hx5).cell_some (HAB.out 3 (.int .i64 ix) rfl); clear hx5)
    | (go_at_call 22; refine (hnamed.out _).mono ?_; rintro e w6 ⟨rfl, rfl⟩)
    | (go_at_call 18; refine (names1 (HH4.out.ext HX5.out)).mono ?_; rintro e w7 ⟨nb, no, nc, rfl, hnm7, hx7⟩; have HX7 := Lib.hid hx7; clear hnm7 hx7))
  have HXB := Lib.hid ((HX4.out.trans HX5.out).trans HX7.out)
  have H7 := Lib.hid (HH4.out.ext (HX5.out.trans HX7.out))
  have P7 := Lib.hid (HP4.out.ext (HX5.out.trans HX7.out))
  have HAT := Lib.hid (fun zd => pMap_other HONE.out p zd)
  have hF := Lib.hid (fun W (hx : Ext w7 W) => feed_no (H7.out.ext hx) HOSZ.out HAT.out a bk bc)
  have hG := Lib.hid (fun W (hx : Ext w7 W) => gone_no (H7.out.ext hx) HOSZ.out HAT.out)
  have hSp := Lib.hid (fun W (hx : Ext w7 W) => spawned_no (H7.out.ext hx) HOSZ.out HAT.out true)
  have hSt := Lib.hid (fun W (hx : Ext w7 W) => state_no (H7.out.ext hx) HOSZ.out HAT.out)
  have hDo := Lib.hid (fun W (hx : Ext w7 W) => do_no (H7.out.ext hx) HOSZ.out HAT.out 0 x1 x2 ix)
  have hWa := Lib.hid (fun W (hx : Ext w7 W) => waiting_no (H7.out.ext hx) HOSZ.out HAT.out)
  have hBu := Lib.hid (fun W (hx : Ext w7 W) => busy_no (H7.out.ext hx) HOSZ.out HAT.out)
  go_upto_region 25 with (first
    | (go_at_call 9; refine (hF.out _ (by repeat (first | exact Ext.refl _ | assumption | refine Ext.alloc ?_ _ | refine Ext.drew ?_ | refine Ext.setCell ?_ (by simp) _ | refine Ext.trans ?_ (by assumption)))).mono ?_; rintro e w8 ⟨rfl, hx8⟩)
    | (go_at_call 10; refine (hG.out _ (by repeat (first | exact Ext.refl _ | assumption | refine Ext.alloc ?_ _ | refine Ext.drew ?_ | refine Ext.setCell ?_ (by simp) _ | refine Ext.trans ?_ (by assumption)))).mono ?_; rintro e w9 ⟨rfl, hx9⟩)
    | (go_at_call 8; refine (hSp.out _ (by repeat (first | exact Ext.refl _ | assumption | refine Ext.alloc ?_ _ | refine Ext.drew ?_ | refine Ext.setCell ?_ (by simp) _ | refine Ext.trans ?_ (by assumption)))).mono ?_; rintro e wa ⟨rfl, hxa⟩; have hxc := (hx8.trans hx9).trans hxa; have sc0 := (HXB.out.trans hxc).cell_some (Lib.cell?_alloc_some (.cells #[.string x0, .string x1, .string x2, .int .i64 ix] 59) (cells_new w #[.int .i64 b, .int .i64 c, .int .i64 t, .int .i64 k, .int .i64 lim, .int .i64 wt, .int .i64 pat] 32 (i := 0) (v := .int .i64 b) rfl)); have sc1 := (HXB.out.trans hxc).cell_some (Lib.cell?_alloc_some (.cells #[.string x0, .string x1, .string x2, .int .i64 ix] 59) (cells_new w #[.int .i64 b, .int .i64 c, .int .i64 t, .int .i64 k, .int .i64 lim, .int .i64 wt, .int .i64 pat] 32 (i := 1) (v := .int .i64 c) rfl)); have sc2 := (HXB.out.trans hxc).cell_some (Lib.cell?_alloc_some (.cells #[.string x0, .string x1, .string x2, .int .i64 ix] 59) (cells_new w #[.int .i64 b, .int .i64 c, .int .i64 t, .int .i64 k, .int .i64 lim, .int .i64 wt, .int .i64 pat] 32 (i := 2) (v := .int .i64 t) rfl)); have sc3 := (HXB.out.trans hxc).cell_some (Lib.cell?_alloc_some (.cells #[.string x0, .string x1, .string x2, .int .i64 ix] 59) (cells_new w #[.int .i64 b, .int .i64 c, .int .i64 t, .int .i64 k, .int .i64 lim, .int .i64 wt, .int .i64 pat] 32 (i := 3) (v := .int .i64 k) rfl)); have sc4 := (HXB.out.trans hxc).cell_some (Lib.cell?_alloc_some (.cells #[.string x0, .string x1, .string x2, .int .i64 ix] 59) (cells_new w #[.int .i64 b, .int .i64 c, .int .i64 t, .int .i64 k, .int .i64 lim, .int .i64 wt, .int .i64 pat] 32 (i := 4) (v := .int .i64 lim) rfl)); have sc5 := (HXB.out.trans hxc).cell_some (Lib.cell?_alloc_some (.cells #[.string x0, .string x1, .string x2, .int .i64 ix] 59) (cells_new w #[.int .i64 b, .int .i64 c, .int .i64 t, .int .i64 k, .int .i64 lim, .int .i64 wt, .int .i64 pat] 32 (i := 5) (v := .int .i64 wt) rfl)); have sc6 := (HXB.out.trans hxc).cell_some (Lib.cell?_alloc_some (.cells #[.string x0, .string x1, .string x2, .int .i64 ix] 59) (cells_new w #[.int .i64 b, .int .i64 c, .int .i64 t, .int .i64 k, .int .i64 lim, .int .i64 wt, .int .i64 pat] 32 (i := 6) (v := .int .i64 pat) rfl)); have ac0 := (HXB.out.trans hxc).cell_some (HAB.out 0 (.string x0) rfl); have ac1 := (HXB.out.trans hxc).cell_some (HAB.out 1 (.string x1) rfl); have ac2 := (HXB.out.trans hxc).cell_some (HAB.out 2 (.string x2) rfl); have ac3 := (HXB.out.trans hxc).cell_some (HAB.out 3 (.int .i64 ix) rfl); clear hx8 hx9 hxa)
    | (go_at_call 12; refine (hSt.out _ (by repeat (first | exact Ext.refl _ | assumption | refine Ext.alloc ?_ _ | refine Ext.drew ?_ | refine Ext.setCell ?_ (by simp) _ | refine Ext.trans ?_ (by assumption)))).mono ?_; rintro e wb ⟨rfl, rfl⟩)
    | (go_at_call 23; refine (addr_calls _ _ _ _ _).mono ?_; rintro e wc ⟨rfl, hxd⟩)
    | (go_at_call 11; refine (hDo.out _ (by repeat (first | exact Ext.refl _ | assumption | refine Ext.alloc ?_ _ | refine Ext.drew ?_ | refine Ext.setCell ?_ (by simp) _ | refine Ext.trans ?_ (by assumption)))).mono ?_; rintro e wd ⟨rfl, hxe⟩; have hxf : Ext w7 wd := (by repeat (first | exact Ext.refl _ | assumption | refine Ext.alloc ?_ _ | refine Ext.drew ?_ | refine Ext.setCell ?_ (by simp) _ | refine Ext.trans ?_ (by assumption))); have sd0 := (HXB.out.trans hxf).cell_some (Lib.cell?_alloc_some (.cells #[.string x0, .string x1, .string x2, .int .i64 ix] 59) (cells_new w #[.int .i64 b, .int .i64 c, .int .i64 t, .int .i64 k, .int .i64 lim, .int .i64 wt, .int .i64 pat] 32 (i := 0) (v := .int .i64 b) rfl)); have sd1 := (HXB.out.trans hxf).cell_some (Lib.cell?_alloc_some (.cells #[.string x0, .string x1, .string x2, .int .i64 ix] 59) (cells_new w #[.int .i64 b, .int .i64 c, .int .i64 t, .int .i64 k, .int .i64 lim, .int .i64 wt, .int .i64 pat] 32 (i := 1) (v := .int .i64 c) rfl)); have sd2 := (HXB.out.trans hxf).cell_some (Lib.cell?_alloc_some (.cells #[.string x0, .string x1, .string x2, .int .i64 ix] 59) (cells_new w #[.int .i64 b, .int .i64 c, .int .i64 t, .int .i64 k, .int .i64 lim, .int .i64 wt, .int .i64 pat] 32 (i := 2) (v := .int .i64 t) rfl)); have sd3 := (HXB.out.trans hxf).cell_some (Lib.cell?_alloc_some (.cells #[.string x0, .string x1, .string x2, .int .i64 ix] 59) (cells_new w #[.int .i64 b, .int .i64 c, .int .i64 t, .int .i64 k, .int .i64 lim, .int .i64 wt, .int .i64 pat] 32 (i := 3) (v := .int .i64 k) rfl)); have sd4 := (HXB.out.trans hxf).cell_some (Lib.cell?_alloc_some (.cells #[.string x0, .string x1, .string x2, .int .i64 ix] 59) (cells_new w #[.int .i64 b, .int .i64 c, .int .i64 t, .int .i64 k, .int .i64 lim, .int .i64 wt, .int .i64 pat] 32 (i := 4) (v := .int .i64 lim) rfl)); have sd5 := (HXB.out.trans hxf).cell_some (Lib.cell?_alloc_some (.cells #[.string x0, .string x1, .string x2, .int .i64 ix] 59) (cells_new w #[.int .i64 b, .int .i64 c, .int .i64 t, .int .i64 k, .int .i64 lim, .int .i64 wt, .int .i64 pat] 32 (i := 5) (v := .int .i64 wt) rfl)); have sd6 := (HXB.out.trans hxf).cell_some (Lib.cell?_alloc_some (.cells #[.string x0, .string x1, .string x2, .int .i64 ix] 59) (cells_new w #[.int .i64 b, .int .i64 c, .int .i64 t, .int .i64 k, .int .i64 lim, .int .i64 wt, .int .i64 pat] 32 (i := 6) (v := .int .i64 pat) rfl)); have ad0 := (HXB.out.trans hxf).cell_some (HAB.out 0 (.string x0) rfl); have ad1 := (HXB.out.trans hxf).cell_some (HAB.out 1 (.string x1) rfl); have ad2 := (HXB.out.trans hxf).cell_some (HAB.out 2 (.string x2) rfl); have ad3 := (HXB.out.trans hxf).cell_some (HAB.out 3 (.int .i64 ix) rfl); clear hxc hxd hxe)
    | (go_at_call 15; refine (hWa.out _ (by repeat (first | exact Ext.refl _ | assumption | refine Ext.alloc ?_ _ | refine Ext.drew ?_ | refine Ext.setCell ?_ (by simp) _ | refine Ext.trans ?_ (by assumption)))).mono ?_; rintro e we ⟨rfl, rfl⟩)
    | (go_at_call 16; refine (hBu.out _ (by repeat (first | exact Ext.refl _ | assumption | refine Ext.alloc ?_ _ | refine Ext.drew ?_ | refine Ext.setCell ?_ (by simp) _ | refine Ext.trans ?_ (by assumption)))).mono ?_; rintro e wf ⟨rfl, rfl⟩))
  have hTw := Lib.hid (fun W (hx : Ext w7 W) => add_twice (H7.out.ext hx) HS.out HNM.out (pMap_at name p) b c t k lim wt pat)
  have hFl := Lib.hid (fun W (hx : Ext w7 W) (ad : Option Addr) => feed_long (H7.out.ext hx) HS.out (pMap_at name p) (a := ad) (k := 8193) (c := 8193) (by decide))
  have hFs := Lib.hid (fun W (hx : Ext w7 W) => feed_state (H7.out.ext hx) HS.out (pMap_at name p) (P7.out.ext hx) (a := a) (k := bk) (c := bc) (by have := HBK.out; omega))
  clear hF hG hSp hSt hDo hWa hBu
  go_upto_region 26 with (go_at_call 6; refine (hTw.out _ (by repeat (first | exact Ext.refl _ | assumption | refine Ext.alloc ?_ _ | refine Ext.drew ?_ | refine Ext.setCell ?_ (by simp) _ | refine Ext.trans ?_ (by assumption)))).mono ?_; rintro e wg ⟨rfl, hxg⟩)
  have hxk : Ext w7 wg := hxf.trans hxg
  obtain ⟨mo, hmk⟩ := make8193 wg
  clear hxf hxg
  go_upto_region 27 with (go_at_call 9; refine (hFl.out _ (hxk.alloc _) _).mono ?_; rintro e wh ⟨rfl, hxh⟩)
  have hxi : Ext w7 wh := (hxk.alloc _).trans hxh
  clear hxk hxh hmk
  go_upto_region 30 with (go_at_call 9; refine (hFs.out _ (by repeat (first | exact Ext.refl _ | assumption | refine Ext.alloc ?_ _ | refine Ext.drew ?_ | refine Ext.setCell ?_ (by simp) _ | refine Ext.trans ?_ (by assumption)))).mono ?_; rintro e wi ⟨rfl, hxj⟩)
  have HX30 := Lib.hid (hxi.trans hxj)
  clear hxi hxj
  have HTK : Hid (∀ W, Ext w7 W → Calls Tryz.prog 13 #[.pointer (some ⟨h, 0, none⟩), .int .i64 n] W fun e w' => (∃ v, e = .returned v) ∧ HostAt w' h m s sm 1 (pMap name p) (min (max n 0) 1152921504606846976) ∧ W.grownBy w' (some h)) := by
    intro W hx
    by_cases hn : n < 1
    · have hz : min (max n 0) 1152921504606846976 = 0 := by omega
      rw [hz]
      refine (tick_lt h hn).mono ?_
      rintro e w' ⟨hv, rfl⟩
      exact ⟨hv, H7.out.ext hx, grown_refl _ _⟩
    · exact tick1 (H7.out.ext hx) HS.out (P7.out.ext hx) HHK.out hn
  go_upto_region 31 with (go_at_call 13; refine (HTK.out _ HX30.out).mono ?_; rintro e wT ⟨⟨v, rfl⟩, hT, hgT⟩)
  have HT := Lib.hid hT
  have HSt := Lib.hid (fun W (hx : Ext wT W) => store_calls (HT.out.ext hx))
  have hbe : (min (max n 0) 1152921504606846976 == min (max n 0) 1152921504606846976) = true := by simp
  clear hT
  have hal := HT.out.apart
  have hms := HM.out
  have hxw := (HX0.out.trans HXB.out).trans HX30.out
  have hz0 := HX0.out.size
  have hxT : Ext w wT := Below.grown hxw hgT hxw.size (by intro j hj; cases hj; omega)
  have HXT := Lib.hid hxT
  clear hxT hxw hz0 hms hal hgT
  go_wp2_with (first
    | (go_at_call 17; refine (now_at HT.out).mono ?_; rintro e wn ⟨rfl, rfl⟩)
    | (go_at_call 14; refine (HSt.out _ (by repeat (first | exact Ext.refl _ | assumption | refine Ext.alloc ?_ _ | refine Ext.drew ?_ | refine Ext.setCell ?_ (by simp) _ | refine Ext.trans ?_ (by assumption)))).mono ?_; rintro e wo ⟨sg, sgm, rfl, hsa, hxo⟩)
    | (go_at_call 24; refine (storeLen hsa).mono ?_; rintro e wp ⟨rfl, rfl⟩)
    | (go_at_call 25; refine (storeSerial hsa).mono ?_; rintro e wq ⟨rfl, rfl⟩))
  go_ret
  exact ⟨rfl, HXT.out.trans (by repeat (first | exact Ext.refl _ | assumption | refine Ext.alloc ?_ _ | refine Ext.drew ?_ | refine Ext.setCell ?_ (by simp) _ | refine Ext.trans ?_ (by assumption)))⟩
end Go.Proofs.YtamcfjjnaolpmaaGreatDoor
