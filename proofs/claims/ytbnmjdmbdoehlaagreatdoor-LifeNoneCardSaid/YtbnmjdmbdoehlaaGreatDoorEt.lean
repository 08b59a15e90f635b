/- Calls of functions with a body, and of those without. -/
import Derived.Test.YtbnmjdmbdoehlaaGreatDoorEs
namespace Go.Proofs.YtbnmjdmbdoehlaaGreatDoor.Ev
open Go Go.RowKit

/-- What a call of this value is to do. -/
def CallDoes (P : Program) (fv : Value) (args : List Value) (s : St) (v : Value) (s' : St) : Prop :=
  Ran s s' ∧ ∀ (fv' : Value) (args' : List Value), Run P s s' (fun ρ _ => VR ρ fv fv' ∧ LR ρ args args') fun w ρ' w' => ∃ v' fn first cap, fv' = .func fn first cap ∧ VR ρ' v v' ∧ InvRet P fn cap (first ++ args'.toArray) w v' w'

theorem body_ok {P : Program} {pr : Prims} (hP : POk P pr) {call : CallF} (hcall : CallOk P call) {f : Nat} {fn : Func} {c : Code} (hf : P.funcs[f]? = some fn) (hb : fn.body = some c) {first captured : Array Value} {args : List Value} {s s1 s2 : St} {x : X} {fr : Fr} {vs : List Value} {rd : List Nat}
    (h1 : fn.ntmps ≤ lim) (h2 : (first.toList ++ args ++ captured.toList).length ≤ lim) (hc : runCode P call false c ⟨argsTr 0 (first.toList ++ args ++ captured.toList) .lf, Nat.max fn.ntmps (first.toList ++ args ++ captured.toList).length, []⟩ s = some (x, fr, s1)) (hx : ∀ i, x ≠ .exit i)
    (hd : runDefers P call fr.defers s1 = some s2) (hr : resV P fr.tmps s2.heap.get fn.results.toList = some (vs, rd)) (hrd : ∀ i ∈ rd, i < s2.ctr) (hg : Good s) : CallDoes P (.func (.func f) first captured) args s (oneOf vs) (s2.eff rd [] 0) := by
  obtain ⟨r1, k1⟩ := runCode_ok hP.mixed hcall c _ _ _ _ _ hc hg
  obtain ⟨r2, k2⟩ := runDefers_ok hP hcall _ _ _ hd r1.good
  obtain ⟨r3, e3, e3'⟩ := ran_eff (s := s2) r2.good (rd := rd) (up := []) (n := 0) r2.good.1 (by simpa using hrd) (by simp)
  refine ⟨r1.trans (r2.trans r3), fun fv' args' w0 ρ H w hA hag hI hfr => ?_⟩
  obtain ⟨hfv, hargs⟩ := hA
  obtain ⟨fn', first', cap', rfl, hfn, hfi, hca⟩ := VR.func_iff.1 hfv
  cases hfn
  obtain ⟨hag1, hag2'⟩ := ag_trans r1 (r2.trans r3) hag
  have hall : LR ρ (first.toList ++ args ++ captured.toList) (first' ++ args'.toArray ++ cap').toList := by
    rw [Array.toList_append, Array.toList_append]
    exact (hfi.append hargs).append hca
  have hT := args_TR hall h2 fn.ntmps
  have hnm : Nat.max fn.ntmps (first.toList ++ args ++ captured.toList).length ≤ lim := Nat.max_le.2 ⟨h1, h2⟩
  obtain ⟨ρ1, w1, g1, a1, f1, st1⟩ := k1 f ⟨first' ++ args'.toArray ++ cap' ++ Array.replicate (fn.ntmps - (first' ++ args'.toArray ++ cap').size) undef, []⟩ w0 ρ H w ⟨hT, hnm, .nil⟩ hag1 hI (fun i a b => hfr i a (Nat.le_trans b (r2.trans r3).ctr))
  obtain ⟨_, hfr1⟩ := fr_trans r1 (r2.trans r3) hfr g1
  obtain ⟨hag2, hag3⟩ := ag_trans r2 r3 hag2'
  obtain ⟨ρ2, w2, g2, st2⟩ := k2 a1.defers w0 ρ1 _ w1 f1.defers hag2 g1.inv (fun i a b => hfr1 i a (Nat.le_trans b r3.ctr))
  rw [e3] at hag3
  obtain ⟨vs', m1, m2⟩ := resV_run g2.inv (f1.tmps.mono g2.le) fn.results.toList vs rd hr hag3
  obtain ⟨v', m3, m4⟩ := oneOf_run (fn := fn) m1 m2
  refine ⟨ρ2, w2, ?_, v', _, _, _, rfl, m4, .body f _ (call_body hP hf (by rw [hb]; rfl) _ _ _) ?_⟩
  · rw [r1.nup_trans (r2.trans r3), r2.nup_trans r3, e3', List.nil_append, ap_append]
    exact g1.trans g2 r1.ctr r2.ctr
  · intro kind cs hcalm
    let b : Frame := { (default : Frame) with fn := f, kind := kind, roundOf := none }
    have henter0 : ∀ as : Array Value, Frame.enter P f as kind = b.atR ⟨as ++ Array.replicate (fn.ntmps - as.size) undef, []⟩ [.code c] := by
      intro as
      simp [Frame.enter, Frame.atR, hf, hb, b]
    have henter := henter0 (first' ++ args'.toArray ++ cap')
    have hbr : b.roundOf = none := rfl
    have ha := st1 b [] cs rfl (fun _ => hbr) hcalm
    have hret : ∃ todo, Steps P (lone (Frame.enter P f (first' ++ args'.toArray ++ cap') kind) cs w) (lone { b.atR a1 todo with mode := .returning } cs w1) := by
      rw [henter]
      cases x with
      | nrm => exact ⟨[], Steps.trans ha (.one (stepR_end hbr))⟩
      | ret => obtain ⟨k2, ha⟩ := ha; exact ⟨_, ha.trans (.one (stepR_ret hbr))⟩
      | exit i => exact absurd rfl (hx i)
    obtain ⟨todo, hret⟩ := hret
    exact ⟨_, hret.trans (st2 _ cs rfl rfl), rfl, rfl, rfl, rfl, fn, hf, m3⟩

theorem plain_ok {P : Program} {f : Nat} {first captured : Array Value} {args : List Value} {s : St} {v : Value} (hg : Good s) (hn : noAddrL (first.toList ++ args ++ captured.toList) = true) (h : semPlain P (callFunc f (first.toList ++ args ++ captured.toList).toArray) = some (.value v)) (hv : noAddr v = true) :
    CallDoes P (.func (.func f) first captured) args s v s := by
  refine ⟨Ran.refl hg, fun fv' args' => Run.refl fun ρ w ⟨hfv, hargs⟩ => ?_⟩
  obtain ⟨fn', first', cap', rfl, hfn, hfi, hca⟩ := VR.func_iff.1 hfv
  cases hfn
  have hall : LR ρ (first.toList ++ args ++ captured.toList) (first'.toList ++ args' ++ cap'.toList) := (hfi.append hargs).append hca
  have e := hall.eq (noAddrL_iff.1 hn)
  have e2 : first' ++ args'.toArray ++ cap' = (first'.toList ++ args' ++ cap'.toList).toArray := by
    apply Array.toList_inj.1
    simp
  refine ⟨v, _, _, _, rfl, VR.refl v hv, .val ?_⟩
  show (callFunc f (first' ++ args'.toArray ++ cap')).run P w = _
  rw [e2, e]
  exact plain_run h w

theorem prim_ok {P : Program} {pr : Prims} (hP : POk P pr) {f : Nat} {fn : Func} (hf : P.funcs[f]? = some fn) (hb : fn.body = none) {p : Prim} (hp : primOf pr f = some p) {first captured : Array Value} {args : List Value} {s s' : St} {v : Value} (hg : Good s)
    (h : goPrim p (first.toList ++ args ++ captured.toList) s = some (v, s')) : CallDoes P (.func (.func f) first captured) args s v s' := by
  unfold goPrim at h
  split at h
  · rename_i E hE
    cases hc : (Nat.ble (Nat.add s.ctr E.n) lim && E.rd.all (fun i => Nat.blt i (Nat.add s.ctr E.n)) && E.up.all (fun p => Nat.blt p.1 (Nat.add s.ctr E.n))) with
    | false => rw [hc] at h; cases h
    | true =>
      rw [hc] at h
      cases h
      rw [Bool.and_eq_true, Bool.and_eq_true] at hc
      obtain ⟨⟨h1, h2⟩, h3⟩ := hc
      have h1' : s.ctr + E.n ≤ lim := Nat.le_of_ble_eq_true h1
      have h2' : ∀ i ∈ E.rd, i < s.ctr + E.n := fun i hi => blt_lt (List.all_eq_true.1 h2 i hi)
      have h3' : ∀ p ∈ E.up, p.1 < s.ctr + E.n := fun p hp => blt_lt (List.all_eq_true.1 h3 p hp)
      refine ⟨(ran_eff hg h1' h2' h3').1, fun fv' args' => run_eff rfl fun w0 ρ H w ⟨hfv, hargs⟩ hag hI hfr => ?_⟩
      obtain ⟨fn', first', cap', rfl, hfn, hfi, hca⟩ := VR.func_iff.1 hfv
      cases hfn
      have hall : LR ρ (first.toList ++ args ++ captured.toList) (first'.toList ++ args' ++ cap'.toList) := (hfi.append hargs).append hca
      have e2 : first' ++ args'.toArray ++ cap' = (first'.toList ++ args' ++ cap'.toList).toArray := by
        apply Array.toList_inj.1
        simp
      cases p with
      | mapsClone =>
        unfold primOp at hE
        split at hE
        · rename_i t r _ ha
          rw [ha] at hall
          split at hE
          · rename_i es clock hr
            cases hE
            obtain ⟨b, m', eb, hvr, hrest⟩ := hall.inv_cons
            obtain rfl := hrest.inv_nil
            have hHr : H r = some (.map es clock) := (hag r (by simp)).trans hr
            cases hvr with
            | iface _ _ v' hvr =>
              cases hvr with
              | map _ k hk =>
                obtain ⟨k', o', hk', hlo, hbk, hor⟩ := hI.live _ _ hHr
                obtain rfl : k' = k := Option.some.inj (hk'.symm.trans hk)
                cases hor with
                | map _ es' _ hes =>
                  have hc0 : ρ s.ctr = none := hfr _ (Nat.le_refl _) (Nat.le_add_right _ _)
                  have g := hI.new (c := s.ctr) (o := .map es clock) (o' := .map es' clock) (k := ⟨w.heap.size, 0, 0, 0⟩) hc0 rfl (.map _ _ _ (hes.mono fun a b hab => ⟨hab.1.mono (Ren.le_put hc0), hab.2.1.mono (Ren.le_put hc0), hab.2.2⟩))
                  refine ⟨_, _, g, .iface t (.map (some w.heap.size)), _, _, _, rfl, .iface _ _ _ (.map _ ⟨w.heap.size, 0, 0, 0⟩ (Ren.put_same _ _ _)), .val ?_⟩
                  show (callFunc f (first' ++ args'.toArray ++ cap')).run P w = _
                  rw [e2, eb, hP.clone f fn hp hf hb]
                  have hgo : (getObj k'.a).run P w = .ok (.map es' clock) w := by simp [getObj, Sem.run, hbk]
                  have hcl : Extern.MapsClone.clone #[.iface t (.map (some k'.a))] = (getObj k'.a >>= fun o => match o with
                      | .map entries clock => do pure (.iface t (.map (some (← newObj (.map entries clock)))))
                      | _ => stuck "maps.clone: a map expected") := rfl
                  show (do pure (.value (← Extern.MapsClone.clone #[.iface t (.map (some k'.a))])) : Sem Next).run P w = _
                  rw [hcl]
                  simp [hgo, run_newObj_alloc]
          · cases hE
        · cases hE
  · cases h
end Go.Proofs.YtbnmjdmbdoehlaaGreatDoor.Ev
