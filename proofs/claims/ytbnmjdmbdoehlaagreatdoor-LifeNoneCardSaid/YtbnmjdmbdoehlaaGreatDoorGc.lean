/- Of no job nothing comes. -/
import Derived.Test.YtbnmjdmbdoehlaaGreatDoorNm
import Derived.Deep.RegionHeld3
import Derived.Deep.Cut
import Derived.Laws.ResultCell
namespace Go.Proofs.YtbnmjdmbdoehlaaGreatDoor
open Go.RowKit
set_option maxRecDepth 100000

def req0 : Value := .agg #[.int .i64 0, .int .i64 0, .string ByteArray.empty, .nilIface, .nilIface, .nilIface, .slice none 0 0, .int .i64 0, .string ByteArray.empty]

theorem ask_nil (w : World) : Calls Tryz.prog 58 #[.pointer none] w fun e w' => e = .returned (.tuple #[req0, .bool false]) ∧ Ext w w' := by
  go_enter Tryz.func58, Tryz.ntmps58
  go_wp2
  (try simp only [Exit.inBlock, Exit.then])
  refine bodyPost_ret (v := .tuple #[req0, .bool false]) ?_ rfl ⟨rfl, (by repeat (first | exact Ext.refl _ | assumption | refine Ext.alloc ?_ _ | refine Ext.drew ?_ | refine Ext.setCell ?_ (by simp) _ | refine Ext.trans ?_ (by assumption)))⟩
  rw [results_cell_tmp rfl]
  unfold req0
  go_simp
  rfl

def end0 : Value := .agg #[.int .i64 0, .string ByteArray.empty, .string ByteArray.empty, .string ByteArray.empty, .string ByteArray.empty, .int .i64 0, .int .i64 0, .nilIface, .slice none 0 0, .slice none 0 0, .bool false, .bool false, .int .i64 0, .string ByteArray.empty, .slice none 0 0]

theorem done_nil (w : World) : Calls Tryz.prog 55 #[.pointer none] w fun e w' => e = .returned (.tuple #[end0, .bool false]) ∧ Ext w w' := by
  go_enter Tryz.func55, Tryz.ntmps55
  go_wp2
  (try simp only [Exit.inBlock, Exit.then])
  refine bodyPost_ret (v := .tuple #[end0, .bool false]) ?_ rfl ⟨rfl, (by repeat (first | exact Ext.refl _ | assumption | refine Ext.alloc ?_ _ | refine Ext.drew ?_ | refine Ext.setCell ?_ (by simp) _ | refine Ext.trans ?_ (by assumption)))⟩
  rw [results_cell_tmp rfl]
  unfold end0
  go_simp
  rfl

theorem answer_nil (n : Int) (w : World) : Calls Tryz.prog 59 #[.pointer none, .agg #[.int .i64 n, .slice none 0 0, .nilIface, .slice none 0 0, .slice none 0 0, .slice none 0 0]] w fun e w' => e = .returned (.bool false) ∧ Ext w w' := by
  go_enter Tryz.func59, Tryz.ntmps59
  go_wp2
  go_ret
  exact ⟨rfl, (by repeat (first | exact Ext.refl _ | assumption | refine Ext.alloc ?_ _ | refine Ext.drew ?_ | refine Ext.setCell ?_ (by simp) _ | refine Ext.trans ?_ (by assumption)))⟩

theorem calls_nil (w : World) : Calls Tryz.prog 57 #[.pointer none] w fun e w' => e = .returned (.int .i64 0) ∧ Ext w w' := by
  go_enter Tryz.func57, Tryz.ntmps57
  go_wp2
  go_ret
  exact ⟨rfl, (by repeat (first | exact Ext.refl _ | assumption | refine Ext.alloc ?_ _ | refine Ext.drew ?_ | refine Ext.setCell ?_ (by simp) _ | refine Ext.trans ?_ (by assumption)))⟩
end Go.Proofs.YtbnmjdmbdoehlaaGreatDoor
