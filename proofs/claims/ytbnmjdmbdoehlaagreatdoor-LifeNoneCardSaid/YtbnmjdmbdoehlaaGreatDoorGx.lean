/- What the evaluator asks of the program; law 26's awake. -/
import Derived.Test.YtbnmjdmbdoehlaaGreatDoorE0
import Derived.Test.YtbnmjdmbdoehlaaGreatDoorEw
namespace Go.Proofs.YtbnmjdmbdoehlaaGreatDoor
open Go
set_option maxRecDepth 1000000

theorem ng_all : Tryz.prog.funcs.toList.all (fun fn => !fn.body.isSome || !(fn.name == "runtime.NumGoroutine")) = true := by kernel_rfl
def prims : Ev.Prims := [(311, .mapsClone)]
theorem prog_ok : Ev.POk Tryz.prog prims := by
  refine ⟨by kernel_rfl, fun f fn hf hb => ?_, fun f fn hp hf hb args w => ?_⟩
  · have := List.all_eq_true.1 ng_all fn (Array.mem_toList_iff.2 (Array.mem_of_getElem? hf))
    rw [hb] at this
    simpa using this
  · have hfm : f = 311 := by
      unfold prims Ev.primOf at hp
      cases h : Nat.beq 311 f with
      | true => exact (Nat.eq_of_beq_eq_true h).symm
      | false => rw [h] at hp; cases hp
    subst hfm
    have hfn : Tryz.prog.funcs[(311 : Nat)]? = some Tryz.f311 := Tryz.func311
    rw [hfn] at hf
    obtain rfl := Option.some.inj hf
    have h1 : Extern.findNext Tryz.f311 = none := by kernel_rfl
    have h2 : Extern.find Tryz.f311 = some Extern.MapsClone.clone := by kernel_rfl
    have h3 : (Tryz.f311.name == "runtime.NumGoroutine") = false := by kernel_rfl
    have h3' : Tryz.f311.name ≠ "runtime.NumGoroutine" := by simpa using h3
    simp [callFunc, hfn, h3', h1, h2, hb]
theorem awake26_calls (w : World) : Calls Tryz.prog 49 #[] w fun e w' => e = .returned (.bool true) ∧ Ext w w' :=
  Ev.closed_true prog_ok (by kernel_rfl) (n := 1000) (by kernel_rfl) w
end Go.Proofs.YtbnmjdmbdoehlaaGreatDoor
