/- 'LifeNone' of package flangelaw26 holds: for every statement's answer the law returns true, and its argument reads as before. Condition: the listed package variables hold what the program's text lays (the card's tie). -/
import Derived.Test.YtbnmjdmbdoehlaaGreatDoorGd
import Derived.Test.YtbnmjdmbdoehlaaGreatDoorGf
import Derived.Test.YtbnmjdmbdoehlaaGreatDoorGx
import Derived.Test.YtbnmjdmbdoehlaaGreatDoorCards
import Derived.Test.YtbnmjdmbdoehlaaGreatDoorTie
import Derived.Test.YtbnmjdmbdoehlaaGreatDoorFLifeNone
import Derived.Test.YtbnmjdmbdoehlaaGreatDoorFg
import Derived.ProofKit
import Derived.OpenShut
import Derived.ShutString
import Derived.ChangeOld
import Derived.Below
import Derived.LaidMore
import Derived.Lay
import Derived.SevenTiedAt
import Derived.Stop.Joined
namespace Go.Proofs.YtbnmjdmbdoehlaaGreatDoor
namespace LifeNoneP
open Go.ChangeShapes Go.WideShapes Go.ChangeAt Go.RowKit
open Go.ChangeMaps (open_string shut_string)

theorem own : ownKnob Tryz.prog.godebug = none := by kernel_rfl
theorem laidOut : laidOutB Tryz.prog = true := by kernel_rfl

set_option maxRecDepth 100000 in
theorem lifted (os : Os) (started : os.Started) (H : Type) (enc : TypeId × Value → H) :
    ReturnsInHanded {} Tryz.checked os 10 .any (fun w args => (Rows.lifeNoneSpec.pre enc Tryz.prog Tryz.f10 Rows.lifeNoneRow.domain false w args ∧ laidMetH Tryz.prog Rows.lifeNoneRow.laid w) ∧ sizedMet enc Tryz.prog Tryz.f10 (OpenSpec.ofChange Rows.lifeNoneSpec) false w args)
      (Rows.lifeNoneSpec.post enc Tryz.prog Tryz.f10 false true false false) := by
  refine returnsInHanded_of_change_and (C := Tryz.checked) (X := fun w _ => laidMetH Tryz.prog Rows.lifeNoneRow.laid w) (fun _ _ _ hh h => h.of_heap hh) own started (by kernel_rfl) Tryz.func10
    (ChangeSpec.witness_shaped (enc := enc) (C := Tryz.checked) (os := os) (X := fun w _ => laidMetH Tryz.prog Rows.lifeNoneRow.laid w) false (World.laidAll Tryz.prog os Rows.lifeNoneRow.laid) #[.agg #[.int .i64 0, .slice none 0 0, .int .i64 0, .bool false, .int .i64 0, .int .i64 0, .string ByteArray.empty, .slice none 0 0, .slice none 0 0, .slice none 0 0, .slice none 0 0, .slice none 0 0]] 8 (World.laidAll_os _ _ _)
      (World.shaped_of_ZipB (by kernel_rfl) (by kernel_rfl)) (by kernel_rfl) (by kernel_rfl) (by kernel_rfl)
      (by rw [MakeChecks.laidMetH_plain _ _ _ (by kernel_rfl)]; exact laidMet_laidAll _ (by kernel_rfl) (by kernel_rfl))) ?_
  intro W base args ds gs before hval0 hW hc _ hL _
  have hval : ∀ (j : Nat) t v, Tryz.f10.params[j]? = some t → args[j]? = some v → Value.okWide Tryz.prog W .any base t v := hval0
  have hW' := hW
  obtain ⟨p, q, hA0, hV, rfl, _, _⟩ := hW
  have hA : DataW.TrodAll enc Tryz.prog W 0 (fun _ => true) true Tryz.f10.params.toList args.toList ds p := hA0
  rw [Tryz.params10] at hA hval
  obtain ⟨v0, vs0, d0, ds0, p0, q0, hargs, rfl, rfl, h0, r0⟩ := trodAll_cons hA
  obtain ⟨rfl, rfl, rfl⟩ := trodAll_nil r0
  obtain rfl : args = #[v0] := by cases args; simp_all
  obtain ⟨rfl, rfl⟩ := trodVars_none hV
  have k0 := h0
  have lt0 : ∀ x ∈ p0, x.block < W.heap.size := by obtain ⟨m, hm⟩ := k0; exact DataW.trod_lt m _ _ _ hm
  obtain ⟨num, a1, l1, c1, k, bo, n, m, s, a, nl, cl, a2, nk, ck, a9, l9, c9, a10, l10, c10, a11, l11, c11, dd, rfl, hVA⟩ := p_shape (hval 0 134 v0 rfl rfl) h0
  clear hA0 hval0
  refine (lifeNone_calls awake26_calls num a1 l1 c1 k bo n m s a nl cl a2 nk ck a9 l9 c9 a10 l10 c10 a11 l11 c11 dd W hVA).mono fun e W' ⟨he, bel⟩ => ?_
  subst he
  exact ⟨_, rfl, _, _, _, [], _, [], hW', trodAll_mk1 (shut_bool Tryz.underlying4 _), (trodAll_cons_mk (Below.trod laidOut (by kernel_rfl) (of_decide_eq_true (by kernel_rfl)) k0 bel lt0) trodAll_mk0), rfl, bel.frame _, fun h => by cases h⟩

theorem said : Rows.LifeNoneSaid :=
  OpenClaim.holds_of_wide 10 Tryz.f10 rfl rfl rfl rfl rfl rfl rfl ⟨rfl, rfl, rfl, rfl, rfl⟩ rfl rfl rfl rfl rfl (by kernel_rfl) Tryz.func10 LifeNone.closed
    (of_decide_eq_true (by kernel_rfl)) (by unfold Func.isWrapper; first | (rw [if_pos (by decide +kernel)]; kernel_rfl) | (rw [if_neg (by decide +kernel)]; exact ⟨rfl, rfl⟩))
    (fun os started H enc _ => lifted os started H enc)

theorem wfText : Rows.lifeNoneRow.wfByText (OpenSpec.ofChange Rows.lifeNoneSpec) = true := by kernel_rfl
theorem mainIs : Tryz.pinned.checked.prog.mainIs = some ((Rows.lifeNoneCard.stood.harness).1, (Rows.lifeNoneCard.stood.harness).2.toList) := by kernel_rfl
theorem looksP : true = Tryz.pinned.checked.prog.looks [] := by kernel_rfl
theorem goesP : false = Rows.lifeNoneRow.goesBy Tryz.pinned.checked.prog := (goesAt_no Rows.lifeNoneRow.func).symm
theorem plain (f : FuncId) (fn : Func) (hf : Tryz.pinned.checked.prog.funcNamed Rows.lifeNoneRow.func = some f) (hfn : Tryz.pinned.checked.prog.funcs[f]? = some fn) :
    true = Tryz.pinned.checked.prog.looks [] ∧ ∀ (j : Nat) t, fn.params[j]? = some t → Tryz.pinned.checked.prog.wantsStandIn t = false := by
  obtain rfl : f = 10 := Option.some.inj ((show Tryz.prog.funcNamed "flange/flangelaw26.LifeNone" = some 10 by kernel_rfl).symm.trans hf) |>.symm
  obtain rfl : fn = Tryz.f10 := (Option.some.inj (Tryz.func10.symm.trans hfn)).symm
  refine ⟨looksP, fun j t ht => ?_⟩
  rw [Tryz.params10] at ht
  have hm : t ∈ [134] := by simpa using Array.mem_of_getElem? ht
  have hall : ([134].all fun u => !Tryz.prog.wantsStandIn u) = true := by kernel_rfl
  exact (show Tryz.prog.wantsStandIn t = false by simpa using List.all_eq_true.1 hall t hm)
end LifeNoneP

/-- The card of 'LifeNone'. -/
theorem lifeNone_card : Rows.LifeNoneCardSaid :=
  Claim7.holds_tied_plain_at .later [] _ _ _ _ LifeNoneP.said (fun _ h => by cases h) LifeNoneP.wfText (fun _ h => by cases h) lifeNone_row_tie rfl ⟨rfl, rfl⟩ LifeNoneP.mainIs rfl LifeNoneP.plain LifeNoneP.goesP
#print axioms lifeNone_card
end Go.Proofs.YtbnmjdmbdoehlaaGreatDoor
