/- No function of the program starts a goroutine. -/
import Derived.Test.YtbnmjdmbdoehlaaGreatDoorRows
import Derived.KernelRfl
import GoSem.ClaimGoes
namespace Go.Proofs.YtbnmjdmbdoehlaaGreatDoor
open Go
set_option maxRecDepth 100000
theorem noneGoes : (Tryz.prog.funcs.toList.all fun fn => !fn.goes) = true := by kernel_rfl
theorem goes_no (f : FuncId) : Tryz.prog.goes f = false := by
  have key : ∀ fn ∈ Tryz.prog.funcs.toList, fn.goes = false := fun fn h => by simpa using List.all_eq_true.1 noneGoes fn h
  unfold Program.goes
  have e1 : ((Tryz.prog.closure f).any fun g => (Tryz.prog.funcs[g]?).any Func.goes) = false := by
    rw [List.any_eq_false]
    intro g _
    cases hg : Tryz.prog.funcs[g]? with
    | none => simp
    | some fn => simp [key fn (Array.mem_toList_iff.2 (Array.mem_of_getElem? hg))]
  have e2 : Tryz.prog.funcs.any Func.goes = false := by
    rw [Array.any_eq_false']
    intro fn h
    simp [key fn (Array.mem_toList_iff.2 h)]
  rw [e1, e2]; simp
theorem goesAt_no (s : String) : Tryz.prog.goesAt .entering s = false := by
  unfold Program.goesAt Program.goesFrom
  cases Tryz.prog.funcNamed s with
  | none => rfl
  | some f => simp [goes_no]
end Go.Proofs.YtbnmjdmbdoehlaaGreatDoor
