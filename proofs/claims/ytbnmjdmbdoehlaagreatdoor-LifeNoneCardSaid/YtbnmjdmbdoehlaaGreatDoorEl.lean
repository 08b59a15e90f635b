/- Operations, calls too; and the regions whose order is fixed. -/
import Derived.Test.YtbnmjdmbdoehlaaGreatDoorEk
namespace Go.Proofs.YtbnmjdmbdoehlaaGreatDoor.Ev
open Go Go.RowKit

theorem Run.mono {P : Program} {s s' : St} {A A2 : Ren → World → Prop} {B B2 : World → Ren → World → Prop} (h : Run P s s' A B) (ha : ∀ ρ w, A2 ρ w → A ρ w) (hb : ∀ w ρ' w', B w ρ' w' → B2 w ρ' w') : Run P s s' A2 B2 := by
  intro w0 ρ H w hA hag hI hfr
  obtain ⟨ρ', w', g, b⟩ := h w0 ρ H w (ha _ _ hA) hag hI hfr
  exact ⟨ρ', w', g, hb _ _ _ b⟩

/-- A bounded step of the evaluator is a run, where its effect comes to pass. -/
theorem run_eff {P : Program} {s s' : St} {rd : List Nat} {up : Up} {n : Nat} (hs' : s' = s.eff rd up n) {A : Ren → World → Prop} {B : World → Ren → World → Prop}
    (h : ∀ w0 ρ H w, A ρ w → (∀ i ∈ rd, H i = s.heap.get i) → Inv P w0 ρ H w → (∀ i, s.ctr ≤ i → i ≤ s.ctr + n → ρ i = none) → ∃ ρ' w', Goes P w0 ρ s.ctr (s.ctr + n) ρ' (ap H up) w' ∧ B w ρ' w') : Run P s s' A B := by
  subst hs'
  intro w0 ρ H w hA hag hI hfr
  have e1 : nrd s (s.eff rd up n) = rd := nrd_of rfl
  have e2 : nup s (s.eff rd up n) = up := nup_of rfl
  rw [e1] at hag
  rw [e2]
  exact h w0 ρ H w hA hag hI hfr

theorem goOp_ok {P : Program} {rnd : Bool} {T : Tr Value} {o : Oper} {s s' : St} {v : Value} (hok : okOps o = true) (h : goOp P T o s = some (v, s')) (hg : Good s) :
    Ran s s' ∧ ∀ a, Run P s s' (fun ρ _ => OpndR ρ T o a) (fun w ρ' w' => ∃ v', VR ρ' v v' ∧ OpRuns P rnd o a w v' w') := by
  unfold goOp at h
  split at h
  · rename_i E hE
    cases hc : (Nat.ble (Nat.add s.ctr E.n) lim && E.rd.all (fun i => Nat.blt i (Nat.add s.ctr E.n)) && E.up.all (fun p => Nat.blt p.1 (Nat.add s.ctr E.n))) with
    | false => rw [hc] at h; cases h
    | true =>
      rw [hc] at h
      cases h
      rw [Bool.and_eq_true, Bool.and_eq_true] at hc
      obtain ⟨⟨h1, h2⟩, h3⟩ := hc
      have h1' : s.ctr + E.n ≤ lim := Nat.le_of_ble_eq_true h1
      have h2' : ∀ i ∈ E.rd, i < s.ctr + E.n := fun i hi => blt_lt (List.all_eq_true.1 h2 i hi)
      have h3' : ∀ p ∈ E.up, p.1 < s.ctr + E.n := fun p hp => blt_lt (List.all_eq_true.1 h3 p hp)
      have hd : ∀ c, o.op ≠ .defer c := by
        intro c hc
        unfold evOp at hE
        rw [hc] at hE
        cases hE
      refine ⟨(ran_eff hg h1' h2' h3').1, fun a => run_eff rfl fun w0 ρ H w hT hag hI hfr => ?_⟩
      have hE' := evOp_agree hE hag
      obtain ⟨ρ', v', w', nx, k1, k2, k3, k4⟩ := evOp_does hI hT hok (hfr s.ctr (Nat.le_refl _) (Nat.le_add_right _ _)) hE'
      exact ⟨ρ', w', k3, v', k4, opDoes_runs hd k1 k2⟩
  · cases h

theorem run_call {P : Program} {a : Act} {o : Oper} {f : Operand} {args : Array Operand} {ats : Array TypeId} {fn : Fn} {first cap : Array Value} {w : World} (ho : o.op = .call { callee := .value f, args, argTypes := ats }) (hf : a.eval f = .func fn first cap) :
    (execOp a.eval o).run P w = (invoke (.fn fn cap) (first ++ args.map a.eval)).run P w := by
  simp [execOp, ho, resolve, hf, Deferred.ofValue]

theorem inv_runs {P : Program} {rnd : Bool} {a : Act} {o : Oper} {f : Operand} {args : Array Operand} {ats : Array TypeId} {fn : Fn} {first cap : Array Value} {w w' : World} {v' : Value} (ho : o.op = .call { callee := .value f, args, argTypes := ats }) (hf : a.eval f = .func fn first cap)
    (h : InvRet P fn cap (first ++ args.map a.eval) w v' w') : OpRuns P rnd o a w v' w' := by
  have hd : ∀ c, o.op ≠ .defer c := by intro c hc; rw [ho] at hc; cases hc
  cases h with
  | val h => exact opDoes_runs hd ((run_call ho hf).trans h) (.inl rfl)
  | body g as h hb =>
    intro b ops i rest k cs _ _ hi hw
    have hfin : (b.atR a (.inRegion ops (i :: rest) :: k)).finish v' = b.atR (a.put o.dst v') (.inRegion ops rest :: k) := by rw [Frame.finish_atR, hi]; rfl
    obtain ⟨fr, s1, e1, e2, e3, e4, fn, e5, e6⟩ := hb .normal (b.atR a (.inRegion ops (i :: rest) :: k) :: cs) (.inl rfl)
    refine .head (step_lone_go ?_) (.trans s1 (.one ?_))
    · rw [stepGR_op hi hw, Oper.semAt_eq _ _ _ hd]
      simp [stepG.apply, (run_call ho hf).trans h, Sem.runT_eq, Frame.atR]
    · rw [← hfin]
      exact step_leave_returned ⟨e2, e3, e1, fn, by rw [e4]; exact e5, e6⟩
  | round l g tmps assign body h hr =>
    intro b ops i rest k cs _ _ hi hw
    have hfin : (b.atR a (.inRegion ops (i :: rest) :: k)).finish v' = b.atR (a.put o.dst v') (.inRegion ops rest :: k) := by rw [Frame.finish_atR, hi]; rfl
    rw [← hfin]
    refine .head (step_lone_go ?_) (hr _ _)
    rw [stepGR_op hi hw, Oper.semAt_eq _ _ _ hd]
    simp [stepG.apply, (run_call ho hf).trans h, Sem.runT_eq]

theorem recover_runs {P : Program} {a : Act} {o : Oper} {args : Array Operand} {ats : Array TypeId} {w : World} (ho : o.op = .call { callee := .builtin .recover, args, argTypes := ats }) : OpRuns P false o a w .nilIface w := by
  have hd : ∀ c, o.op ≠ .defer c := by intro c hc; rw [ho] at hc; cases hc
  intro b ops i rest k cs hb hk hi hw
  have hfin : (b.atR a (.inRegion ops (i :: rest) :: k)).finish .nilIface = b.atR (a.put o.dst .nilIface) (.inRegion ops rest :: k) := by rw [Frame.finish_atR, hi]; rfl
  have he : (execOp a.eval o).run P w = .ok .recover w := by
    simp [execOp, ho, resolve, invoke, builtin]
  refine .one (step_lone_go ?_)
  have ht : tryRecover (b.atR a (.inRegion ops (i :: rest) :: k)) cs = none := by
    rcases hk with hk | ⟨hk, c, r, rfl, hc⟩
    · simp [tryRecover, Frame.atR, hk]
    · simp [tryRecover, Frame.atR, hk, hc]
  have hro : (b.atR a (.inRegion ops (i :: rest) :: k)).roundOf = none := hb rfl
  rw [stepGR_op hi hw, Oper.semAt_eq _ _ _ hd, ← hfin]
  simp [stepG.apply, he, Sem.runT_eq, ht, hro]

theorem opGo_ok {P : Program} {call : CallF} (hcall : CallOk P call) {rnd : Bool} {T : Tr Value} {o : Oper} {s s' : St} {v : Value} (h : opGo P call rnd T o s = some (v, s')) (hg : Good s) :
    Ran s s' ∧ ∀ a, Run P s s' (fun ρ _ => OpndR ρ T o a) (fun w ρ' w' => ∃ v', VR ρ' v v' ∧ OpRuns P rnd o a w v' w') := by
  unfold opGo at h
  cases hok : okOps o with
  | false => rw [hok] at h; cases h
  | true =>
    rw [hok] at h
    dsimp only [cond_true] at h
    split at h
    · rename_i f args ats ho
      obtain ⟨hr, hk⟩ := hcall _ _ _ _ _ h hg
      refine ⟨hr, fun a => (hk (a.eval f) (args.toList.map a.eval)).mono (fun ρ w hT => ?_) (fun w ρ' w' hB => ?_)⟩
      · have hev : ∀ x ∈ o.op.operands, VR ρ (ev T x) (a.eval x) := fun x hx => hT.ev (List.all_eq_true.1 hok x (by simpa using hx)) hx
        refine ⟨hev f (by simp [ho, Op.operands, Call.operands]), ?_⟩
        exact (L2.refl (R := fun x y => y = x ∧ x ∈ args.toList) fun x hx => ⟨rfl, hx⟩).map fun x y ⟨e, hx⟩ => by
          subst e; exact hev _ (by have hx' := Array.mem_toList_iff.1 hx; simp [ho, Op.operands, Call.operands, hx'])
      · obtain ⟨v', fn, first, cap, e, hv, hi⟩ := hB
        refine ⟨v', hv, inv_runs ho e ?_⟩
        rw [← Array.toList_map] at hi
        exact hi
    · rename_i args ats ho
      cases rnd with
      | true => cases h
      | false =>
        cases h
        exact ⟨Ran.refl hg, fun a => Run.refl fun ρ w _ => ⟨.nilIface, .nilIface, recover_runs ho⟩⟩
    · exact goOp_ok hok h hg

theorem wanted_eq {ρ : Ren} {T : Tr Value} {n : Nat} {tmps : Array Value} (h : TR ρ T n tmps) (ops : Array Oper) (o : Oper) : Region.wanted o (yieldT ops T) = Region.wanted o (yielded ops tmps) := by rw [yield_eq h]

theorem drop_cons {α : Type} {l : List α} {i : Nat} {x : α} {r : List α} (h : l.drop i = x :: r) : l[i]? = some x ∧ l.drop (i + 1) = r := by
  constructor
  · have := List.getElem?_drop (xs := l) (i := i) (j := 0)
    rw [h] at this; simpa using this.symm
  · have := List.drop_drop (l := l) (i := 1) (j := i)
    rw [h] at this; simpa [Nat.add_comm] using this.symm

def OpsRun (P : Program) (rnd : Bool) (ops : Array Oper) (is : List Nat) (a : Act) (w : World) (a' : Act) (w' : World) : Prop :=
  ∀ (b : Frame) (k : List Item) (cs : List Frame), (rnd = false → b.roundOf = none) → Calm b.kind cs → Steps P (lone (b.atR a (.inRegion ops is :: k)) cs w) (lone (b.atR a' k) cs w')

theorem runOps_ok {P : Program} {call : CallF} (hcall : CallOk P call) {rnd : Bool} {ops : Array Oper} : ∀ (l : List Oper) (i : Nat) (fr : Fr) (s : St) (fr' : Fr) (s' : St), ops.toList.drop i = l → runOps P call rnd ops l fr s = some (fr', s') → Good s →
    Ran s s' ∧ ∀ a, Run P s s' (fun ρ _ => FR ρ fr a) (fun w ρ' w' => ∃ a', FR ρ' fr' a' ∧ OpsRun P rnd ops (List.range' i l.length) a w a' w') := by
  intro l
  induction l with
  | nil =>
    intro i fr s fr' s' _ h hg
    cases h
    exact ⟨Ran.refl hg, fun a => Run.refl fun ρ w h => ⟨a, h, fun b k cs _ _ => .one stepR_region_end⟩⟩
  | cons o l ih =>
    intro i fr s fr' s' hl h hg
    obtain ⟨hi, hl'⟩ := drop_cons hl
    have hi' : ops[i]? = some o := by simpa using hi
    unfold runOps at h
    cases hw : Region.wanted o (yieldT ops fr.tmps) with
    | false =>
      rw [hw] at h
      dsimp only [cond_false] at h
      obtain ⟨r, hr⟩ := ih (i + 1) _ _ _ _ hl' h hg
      refine ⟨r, fun a w0 ρ H w hA hag hI hfr => ?_⟩
      obtain ⟨ρ', w', g, a', h1, h2⟩ := hr (a.put o.dst undef) w0 ρ H w (hA.put _ vr_undef) hag hI hfr
      refine ⟨ρ', w', g, a', h1, fun b k cs hb hk => .head ?_ (h2 b k cs hb hk)⟩
      rw [wanted_eq hA.tmps] at hw
      have := stepR_op_skip (P := P) (b := b) (a := a) (k := k) (cs := cs) (w := w) (ops := ops) (i := i) (rest := List.range' (i + 1) l.length) (by rw [hi']; exact hw)
      rw [hi'] at this
      exact this
    | true =>
      rw [hw] at h
      dsimp only [cond_true] at h
      split at h
      · rename_i f args ats ho
        cases hc : (rnd || !okOps o) with
        | true => rw [hc] at h; cases h
        | false =>
          rw [hc] at h
          dsimp only [cond_false] at h
          rw [Bool.or_eq_false_iff] at hc
          obtain ⟨hc1, hc2⟩ := hc
          have hok : okOps o = true := by simpa using hc2
          subst hc1
          split at h
          · rename_i g first captured hf
            obtain ⟨r, hr⟩ := ih (i + 1) _ _ _ _ hl' h hg
            refine ⟨r, fun a w0 ρ H w hA hag hI hfr => ?_⟩
            have hev : ∀ x ∈ o.op.operands, VR ρ (ev fr.tmps x) (a.eval x) := fun x hx => ev_rel hA.tmps (List.all_eq_true.1 hok x (by simpa using hx))
            have hv := hev f (by simp [ho, Op.operands, Call.operands])
            rw [hf] at hv
            obtain ⟨fn', fs', cs', e1, e2, e3, e4⟩ := VR.func_iff.1 hv
            cases e2
            have hargs : LR ρ (args.map (ev fr.tmps)).toList (args.map a.eval).toList := by
              rw [Array.toList_map, Array.toList_map]
              exact (L2.refl (R := fun x y => y = x ∧ x ∈ args.toList) fun x hx => ⟨rfl, hx⟩).map fun x y ⟨e, hx⟩ => by
                subst e; exact hev _ (by have hx' := Array.mem_toList_iff.1 hx; simp [ho, Op.operands, Call.operands, hx'])
            let d' : Deferred := { target := .fn (.func g) cs', args := fs' ++ args.map a.eval }
            have hput : FR ρ (fr.put o.dst undef) (a.put o.dst undef) := hA.put _ vr_undef
            have hdef : (a.put o.dst undef).defers = a.defers := by cases o.dst <;> rfl
            have hdef2 : (fr.put o.dst undef).defers = fr.defers := by
              unfold Fr.put; cases o.dst with
              | none => rfl
              | some d => dsimp only; cases Nat.blt d fr.n <;> rfl
            obtain ⟨ρ', w', g', a', h1, h2⟩ := hr { a with defers := d' :: a.defers, tmps := (a.put o.dst undef).tmps } w0 ρ H w
              ⟨hput.tmps, hput.n, .cons (.fn g _ _ _ _ e4 (by rw [Array.toList_append, Array.toList_append]; exact e3.append hargs)) hA.defers⟩ hag hI hfr
            refine ⟨ρ', w', g', a', h1, fun b k cs hb hk => .head (step_lone_go ?_) (h2 b k cs hb hk)⟩
            rw [wanted_eq hA.tmps] at hw
            have he : (execOp a.eval o).run P w = .ok (.defer d') w := by
              simp [execOp, ho, resolve, e1, Deferred.ofValue, d']
            show (stepG P true { frame := b.atR a (.inRegion ops (i :: List.range' (i + 1) l.length) :: k), callers := cs, status := .running, dying := none } w).bare = _
            rw [stepGR_op hi' hw, hb rfl, Oper.semAt_none]
            have hfin : ({ b.atR a (.inRegion ops (i :: List.range' (i + 1) l.length) :: k) with defers := d' :: a.defers } : Frame).finish undef = b.atR { a with defers := d' :: a.defers, tmps := (a.put o.dst undef).tmps } (.inRegion ops (List.range' (i + 1) l.length) :: k) := by
              have := Frame.finish_atR b { a with defers := d' :: a.defers } ops i (List.range' (i + 1) l.length) k undef
              rw [hi'] at this
              refine Eq.trans this ?_
              show b.atR (Act.put _ o.dst undef) _ = _
              cases o.dst <;> rfl
            rw [← hfin]
            simp [stepG.apply, he, Sem.runT_eq, Frame.atR]
          · cases h
      · rename_i hnd
        split at h
        · rename_i v s1 hop
          obtain ⟨r1, h1⟩ := opGo_ok hcall hop hg
          obtain ⟨r2, h2⟩ := ih (i + 1) _ _ _ _ hl' h r1.good
          refine ⟨r1.trans r2, fun a => Run.bind r1 r2 (((h1 a).mono (A2 := fun ρ w => FR ρ fr a) (fun ρ w hA => hA.tmps.opnd o) (fun _ _ _ h => h))) h2 ?_⟩
          intro ρ w ρ1 w1 hA hle ⟨v', hv, hop'⟩
          refine ⟨a.put o.dst v', (hA.mono hle).put _ hv, fun ρ2 w2 _ ⟨a', h1, h2⟩ => ⟨a', h1, fun b k cs hb hk => .trans (hop' b ops i _ k cs hb hk hi' ?_) (h2 b k cs hb hk)⟩⟩
          rw [← wanted_eq hA.tmps]; exact hw
        · cases h
end Go.Proofs.YtbnmjdmbdoehlaaGreatDoor.Ev
