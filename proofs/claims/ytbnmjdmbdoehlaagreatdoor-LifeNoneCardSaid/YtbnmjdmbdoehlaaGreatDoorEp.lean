/- Code. -/
import Derived.Test.YtbnmjdmbdoehlaaGreatDoorEo
namespace Go.Proofs.YtbnmjdmbdoehlaaGreatDoor.Ev
open Go Go.RowKit

/-- Where the machine stands when a piece of code has been left so. -/
def After (P : Program) : X → Frame → Act → List Item → List Frame → World → Machine → Prop
  | .nrm, b, a', k, cs, w', m => Steps P m (lone (b.atR a' k) cs w')
  | .ret, b, a', _, cs, w', m => ∃ k2, Steps P m (lone (b.atR a' (.code .ret :: k2)) cs w')
  | .exit id, b, a', k, cs, w', m => ∃ k2, exitTo id k2 = exitTo id k ∧ Steps P m (lone (b.atR a' (.code (.exit id) :: k2)) cs w')

theorem After.head {P : Program} {x : X} {b : Frame} {a' : Act} {k : List Item} {cs : List Frame} {w' : World} {m m1 : Machine} (s : Steps P m m1) (h : After P x b a' k cs w' m1) : After P x b a' k cs w' m := by
  cases x with
  | nrm => exact Steps.trans s h
  | ret => obtain ⟨k2, h⟩ := h; exact ⟨k2, s.trans h⟩
  | exit id => obtain ⟨k2, e, h⟩ := h; exact ⟨k2, e, s.trans h⟩

def CodeRun (P : Program) (rnd : Bool) (F : FuncId) (c : List Item) (x : X) (a : Act) (w : World) (a' : Act) (w' : World) : Prop :=
  ∀ (b : Frame) (k : List Item) (cs : List Frame), b.fn = F → (rnd = false → b.roundOf = none) → Calm b.kind cs → After P x b a' k cs w' (lone (b.atR a (c ++ k)) cs w)

def CodeOk (P : Program) (rnd : Bool) (c : List Item) (fr : Fr) (s : St) (x : X) (fr' : Fr) (s' : St) : Prop :=
  Ran s s' ∧ ∀ F a, Run P s s' (fun ρ _ => FR ρ fr a) (fun w ρ' w' => ∃ a', FR ρ' fr' a' ∧ CodeRun P rnd F c x a w a' w')

/-- A step that changes nothing but what is left to do. -/
theorem CodeOk.pre {P : Program} {rnd : Bool} {c c1 : List Item} {fr fr' : Fr} {s s' : St} {x : X} (h : CodeOk P rnd c1 fr s x fr' s')
    (st : ∀ (ρ : Ren) (b : Frame) (a : Act) (k : List Item) (cs : List Frame) (w : World), FR ρ fr a → step P (lone (b.atR a (c ++ k)) cs w) = .next (lone (b.atR a (c1 ++ k)) cs w)) : CodeOk P rnd c fr s x fr' s' := by
  refine ⟨h.1, fun F a w0 ρ H w hA hag hI hfr => ?_⟩
  obtain ⟨ρ', w', g, a', h1, h2⟩ := h.2 F a w0 ρ H w hA hag hI hfr
  exact ⟨ρ', w', g, a', h1, fun b k cs e1 e2 e3 => (h2 b k cs e1 e2 e3).head (.one (st ρ b a k cs w hA))⟩

/-- A step after which nothing is left. -/
theorem CodeOk.ends {P : Program} {rnd : Bool} {c : List Item} {fr : Fr} {s : St} (hg : Good s)
    (st : ∀ (b : Frame) (a : Act) (k : List Item) (cs : List Frame) (w : World), step P (lone (b.atR a (c ++ k)) cs w) = .next (lone (b.atR a k) cs w)) : CodeOk P rnd c fr s .nrm fr s :=
  ⟨Ran.refl hg, fun F a => Run.refl fun ρ w hA => ⟨a, hA, fun b k cs _ _ _ => .one (st b a k cs w)⟩⟩

/-- One behind the other. -/
theorem CodeOk.seq {P : Program} {rnd : Bool} {c d : List Item} {fr fr1 fr' : Fr} {s s1 s' : St} {x : X} (h1 : CodeOk P rnd c fr s .nrm fr1 s1) (h2 : CodeOk P rnd d fr1 s1 x fr' s') : CodeOk P rnd (c ++ d) fr s x fr' s' := by
  refine ⟨h1.1.trans h2.1, fun F a => Run.bind h1.1 h2.1 (h1.2 F a) (h2.2 F) ?_⟩
  intro ρ w ρ1 w1 hA hle ⟨a1, f1, r1⟩
  refine ⟨a1, f1, fun ρ2 w2 _ ⟨a2, f2, r2⟩ => ⟨a2, f2, fun b k cs e1 e2 e3 => (r2 b k cs e1 e2 e3).head ?_⟩⟩
  have := r1 b (d ++ k) cs e1 e2 e3
  rw [← List.append_assoc] at this
  exact this

/-- What stands behind it is passed over. -/
theorem CodeOk.pass {P : Program} {rnd : Bool} {c d : List Item} {fr fr' : Fr} {s s' : St} {x : X} (h : CodeOk P rnd c fr s x fr' s') (hx : x ≠ .nrm) (he : ∀ id k, x = .exit id → exitTo id (d ++ k) = exitTo id k) : CodeOk P rnd (c ++ d) fr s x fr' s' := by
  refine ⟨h.1, fun F a => (h.2 F a).mono (fun _ _ h => h) fun w ρ' w' ⟨a', f1, r1⟩ => ⟨a', f1, fun b k cs e1 e2 e3 => ?_⟩⟩
  have := r1 b (d ++ k) cs e1 e2 e3
  rw [← List.append_assoc] at this
  cases x with
  | nrm => exact absurd rfl hx
  | ret => exact this
  | exit id =>
    obtain ⟨k2, e, st⟩ := this
    exact ⟨k2, e.trans (he id k rfl), st⟩

theorem loopN_ok {P : Program} {rnd : Bool} {body : Code} {f : Fr → St → Option (X × Fr × St)} (hf : ∀ fr s x fr' s', f fr s = some (x, fr', s') → Good s → CodeOk P rnd [.code body] fr s x fr' s') :
    ∀ (n : Nat) (fr : Fr) (s : St) (x : X) (fr' : Fr) (s' : St), loopN f n fr s = some (x, fr', s') → Good s → x ≠ .nrm ∧ CodeOk P rnd [.code body, .inLoop body] fr s x fr' s' := by
  intro n
  induction n with
  | zero => intro fr s x fr' s' h; cases h
  | succ n ih =>
    intro fr s x fr' s' h hg
    unfold loopN at h
    split at h
    · rename_i fr1 s1 h1
      have k1 := hf _ _ _ _ _ h1 hg
      obtain ⟨k2, k3⟩ := ih _ _ _ _ _ h k1.1.good
      refine ⟨k2, k1.seq (d := [.inLoop body]) (k3.pre fun ρ b a k cs w _ => stepR_inLoop)⟩
    · rename_i hne
      have k1 := hf _ _ _ _ _ h hg
      have hx : x ≠ .nrm := fun e => hne fr' s' (by rw [h, e])
      refine ⟨hx, k1.pass (d := [.inLoop body]) hx fun id k _ => rfl⟩
/-- The call that a range over a function makes. -/
theorem range_apply {P : Program} {b : Frame} {a : Act} {k : List Item} {cs : List Frame} {w w1 : World} {g : Operand} {ps : Array Tmp} {assign body : Code} {l : Nat} {mark : List Deferred} {fn : Fn} {first cap : Array Value}
    (he : (Instr.enterLoop b.fn a.tmps ps assign body b.roundOf).run P w = .ok (l, mark) w1) (hf : a.eval g = .func fn first cap) :
    ∃ s : Sem Next, s.run P w1 = (invoke (.fn fn cap) (first ++ #[.func (.yield l) #[] #[]])).run P w1 ∧
    (stepG P true { frame := b.atR a (.code (.rangeFunc g ps assign body) :: k), callers := cs, status := .running, dying := none } w).bare =
      (stepG.apply P true (b.atR { a with defers := mark ++ a.defers } (.inRangeFunc l :: k)) cs none s w1).bare := by
  have hev := Frame.eval_atR b { a with defers := mark ++ a.defers } (.inRangeFunc l :: k)
  refine ⟨do let d ← resolve (b.atR { a with defers := mark ++ a.defers } (.inRangeFunc l :: k)).eval (rangeCall g l) 0; invoke d.target d.args, ?_, ?_⟩
  · rw [hev]
    have hf' : ({ tmps := a.tmps, defers := mark ++ a.defers } : Act).eval g = .func fn first cap := hf
    have hy : ({ tmps := a.tmps, defers := mark ++ a.defers } : Act).eval (.const (.func (.yield l) #[] #[])) = .func (.yield l) #[] #[] := rfl
    simp [resolve, hf', hy, Deferred.ofValue]
  · simp [stepG, stepG.exec, Frame.atR, Sem.runT_eq, he, GStep.bare_after]

theorem range_runs {P : Program} {b : Frame} {a : Act} {k : List Item} {cs : List Frame} {w w1 w2 : World} {g : Operand} {ps : Array Tmp} {assign body : Code} {l : Nat} {mark : List Deferred} {fn : Fn} {first cap : Array Value} {v' : Value}
    (he : (Instr.enterLoop b.fn a.tmps ps assign body b.roundOf).run P w = .ok (l, mark) w1) (hf : a.eval g = .func fn first cap)
    (h : InvRet P fn cap (first ++ #[.func (.yield l) #[] #[]]) w1 v' w2) :
    Steps P (lone (b.atR a (.code (.rangeFunc g ps assign body) :: k)) cs w) (lone (b.atR { a with defers := mark ++ a.defers } (.endRangeFunc l :: k)) cs w2) := by
  obtain ⟨s, hs, hb⟩ := range_apply (P := P) (k := k) (cs := cs) he hf
  have hfin : ∀ v, (b.atR { a with defers := mark ++ a.defers } (.inRangeFunc l :: k)).finish v = b.atR { a with defers := mark ++ a.defers } (.endRangeFunc l :: k) := fun v => finish_atR_inRangeFunc l v
  cases h with
  | val h =>
    refine .one (step_lone_go (hb.trans ?_))
    rw [← hfin v']
    simp [stepG.apply, hs.trans h, Sem.runT_eq]
  | body f as h hbr =>
    obtain ⟨fr, s1, e1, e2, e3, e4, fn, e5, e6⟩ := hbr .normal (b.atR { a with defers := mark ++ a.defers } (.inRangeFunc l :: k) :: cs) (.inl rfl)
    refine .head (step_lone_go (hb.trans ?_)) (.trans s1 (.one ?_))
    · simp [stepG.apply, hs.trans h, Sem.runT_eq, Frame.atR]
    · rw [← hfin v']
      exact step_leave_returned ⟨e2, e3, e1, fn, by rw [e4]; exact e5, e6⟩
  | round l2 g2 tmps assign2 body2 h hr =>
    rw [← hfin v']
    refine .head (step_lone_go (hb.trans ?_)) (hr _ _)
    simp [stepG.apply, hs.trans h, Sem.runT_eq]

/-- What a range over a function ends with. -/
def pendX : Option Code → Option X
  | none => some .nrm
  | some .ret => some .ret
  | some (.exit i) => some (.exit i)
  | _ => none

theorem rangeFunc_ok {P : Program} {call : CallF} (hcall : CallOk P call) {f : Operand} {ps : Array Tmp} {assign body : Code} {fr fr' : Fr} {s s' : St} {x : X}
    (h : runCode P call false (.rangeFunc f ps assign body) fr s = some (x, fr', s')) (hg : Good s) : CodeOk P false [.code (.rangeFunc f ps assign body)] fr s x fr' s' := by
  unfold runCode at h
  cases hc : (false || !okOperand f || !Nat.ble (s.ctr + 2) lim) with
  | true => rw [hc] at h; cases h
  | false =>
    rw [hc] at h
    dsimp only [cond_false] at h
    rw [Bool.or_eq_false_iff, Bool.or_eq_false_iff] at hc
    have hok : okOperand f = true := by simpa using hc.1.2
    have hl : s.ctr + 2 ≤ lim := Nat.le_of_ble_eq_true (by simpa using hc.2)
    split at h
    · rename_i v s2 hcl
      obtain ⟨r0, e0, e0'⟩ := ran_eff (s := s) hg (rd := []) (up := [(s.ctr + 1, some (.loop .ready none fr.tmps fr.n ps assign body s.ctr)), (s.ctr, some (.defd false))]) (n := 2) hl (by simp) (by simp)
      obtain ⟨r1, hk⟩ := hcall _ _ _ _ _ hcl r0.good
      -- what the record says in the end
      have key : ∃ st pend T n ps2 as bd d, s2.heap.get (s.ctr + 1) = some (.loop st pend T n ps2 as bd d) ∧ st ≠ .busy ∧ pendX pend = some x ∧ fr' = { fr with defers := { target := .collected s.ctr, args := #[] } :: fr.defers } ∧
          s' = s2.eff [s.ctr + 1] [(s.ctr + 1, some (.loop .exhausted pend T n ps2 as bd d))] 0 := by
        split at h
        · rename_i st pend T n ps2 as bd d hget
          split at h
          · cases h
          · rename_i hst
            split at h
            · cases h; exact ⟨_, _, _, _, _, _, _, _, hget, hst, rfl, rfl, rfl⟩
            · cases h; exact ⟨_, _, _, _, _, _, _, _, hget, hst, rfl, rfl, rfl⟩
            · cases h; exact ⟨_, _, _, _, _, _, _, _, hget, hst, rfl, rfl, rfl⟩
            · cases h
        · cases h
      obtain ⟨st, pend, T, n, ps2, as, bd, d, hget, hst, hx, rfl, hs'⟩ := key
      have hlt : s.ctr + 1 < s2.ctr := r1.good.2 _ _ hget
      obtain ⟨r2, e2, e2'⟩ := ran_eff (s := s2) r1.good (rd := [s.ctr + 1]) (up := [(s.ctr + 1, some (.loop .exhausted pend T n ps2 as bd d))]) (n := 0) r1.good.1 (by simpa using hlt) (by simpa using hlt)
      rw [← hs'] at r2 e2 e2'
      have r12 := r1.trans r2
      have rall := r0.trans r12
      refine ⟨rall, fun F a w0 ρ H w hA hag hI hfr => ?_⟩
      -- the two blocks
      have hc0 : s.ctr ≤ s2.ctr := Nat.le_trans r0.ctr r1.ctr
      have hc2 : s2.ctr ≤ s'.ctr := r2.ctr
      let k0 : Blk := ⟨w.heap.size, 0, 0, 0⟩
      let k1 : Blk := ⟨w.heap.size + 1, 0, 0, 0⟩
      have g0 := hI.new (c := s.ctr) (o := .defd false) (o' := .deferred (some [])) (k := k0) (hfr _ (Nat.le_refl _) (by omega)) rfl .defd
      have hρ1 : (ρ.put s.ctr k0) (s.ctr + 1) = none := (Ren.put_other (by omega)).trans (hfr _ (by omega) (by omega))
      have g1 := g0.inv.new (c := s.ctr + 1) (o := .loop .ready none fr.tmps fr.n ps assign body s.ctr) (o' := .loop { state := .ready, pending := none, fn := F, tmps := a.tmps, params := ps, assign, body, defers := w.heap.size }) (k := k1) hρ1 (by simp [k1, World.size_alloc])
        (.loop _ _ _ _ _ _ _ _ k0 _ _ (hA.tmps.mono (Ren.le_trans g0.le (Ren.le_put hρ1))) (by rw [Ren.put_other (by omega)]; exact Ren.put_same _ _ _))
      have g01 := g0.trans g1 (by omega) (by omega)
      generalize hρ' : (ρ.put s.ctr k0).put (s.ctr + 1) k1 = ρ1 at g1 g01
      have hρ1k : ρ1 (s.ctr + 1) = some k1 := by rw [← hρ']; exact Ren.put_same _ _ _
      have hρ0k : ρ1 s.ctr = some k0 := by rw [← hρ', Ren.put_other (by omega)]; exact Ren.put_same _ _ _
      generalize hw1 : (w.alloc (.deferred (some []))).alloc (.loop { state := .ready, pending := none, fn := F, tmps := a.tmps, params := ps, assign, body, defers := w.heap.size }) = w1 at g1 g01
      -- the call
      rw [r0.nrd_trans r12, e0, List.append_nil, r1.nrd_trans r2, e2] at hag
      have hev : VR ρ1 (ev fr.tmps f) (a.eval f) := (ev_rel hA.tmps hok).mono g01.le
      have hH1 : ∀ i, ap (ap H [(s.ctr, some (AO.defd false))]) [(s.ctr + 1, some (.loop .ready none fr.tmps fr.n ps assign body s.ctr))] i = ap H [(s.ctr + 1, some (.loop .ready none fr.tmps fr.n ps assign body s.ctr)), (s.ctr, some (.defd false))] i := fun _ => rfl
      have i1 : Inv P w0 ρ1 (ap H [(s.ctr + 1, some (.loop .ready none fr.tmps fr.n ps assign body s.ctr)), (s.ctr, some (.defd false))]) w1 := g01.inv
      have hsc : (s.eff [] [(s.ctr + 1, some (.loop .ready none fr.tmps fr.n ps assign body s.ctr)), (s.ctr, some (.defd false))] 2).ctr = s.ctr + 2 := rfl
      obtain ⟨ρ2, w2, g2, v', fn, first, cap, efn, hv', hinv⟩ := hk (a.eval f) [.func (.yield (w.heap.size + 1)) #[] #[]] w0 ρ1 _ w1 ⟨hev, .cons (VR.func_iff.2 ⟨_, _, _, rfl, .yield _ k1 hρ1k, .nil, .nil⟩) .nil⟩
        (fun i hi => by
          rw [r0.heap, e0']
          exact ap_agree (hag i (List.mem_append_right _ hi)))
        i1 (fun i h1 h2 => by
          rw [hsc] at h1
          rw [g01.old i (by omega)]
          exact hfr i (by omega) (by omega))
      -- the record afterwards
      have hrec : ap (ap H [(s.ctr + 1, some (.loop .ready none fr.tmps fr.n ps assign body s.ctr)), (s.ctr, some (.defd false))]) (nup (s.eff [] [(s.ctr + 1, some (.loop .ready none fr.tmps fr.n ps assign body s.ctr)), (s.ctr, some (.defd false))] 2) s2) (s.ctr + 1) = some (.loop st pend T n ps2 as bd d) := by
        rw [← hget, r1.heap]
        refine ap_agree ?_
        rw [r0.heap, e0']
        exact (if_pos rfl : (if s.ctr + 1 = s.ctr + 1 then _ else _) = _).trans (if_pos rfl : (if s.ctr + 1 = s.ctr + 1 then _ else _) = _).symm
      have hρ2k : ρ2 (s.ctr + 1) = some k1 := g2.le _ _ hρ1k
      obtain ⟨k', o', hk', hlo, hb, hor⟩ := g2.inv.live _ _ hrec
      obtain rfl : k' = k1 := Option.some.inj (hk'.symm.trans hρ2k)
      cases hor with
      | loop _ _ _ _ _ _ _ _ kd fn2 tmps2 hT hd =>
        have i3 := g2.inv.put hrec hρ2k (o2 := .loop .exhausted pend T n ps2 as bd d) (o2' := .loop { state := .exhausted, pending := pend, fn := fn2, tmps := tmps2, params := ps2, assign := as, body := bd, defers := kd.a }) (.loop _ _ _ _ _ _ _ _ kd fn2 tmps2 hT hd)
        have hend := run_endLoop (P := P) hb hst
        refine ⟨ρ2, w2.putObj (w.heap.size + 1) (.loop { state := .exhausted, pending := pend, fn := fn2, tmps := tmps2, params := ps2, assign := as, body := bd, defers := kd.a }), ⟨Ren.le_trans g01.le g2.le, fun i hi => ?_, ?_⟩, { a with defers := { target := .collected w.heap.size, args := #[] } :: a.defers }, ⟨(hA.tmps.mono (Ren.le_trans g01.le g2.le)), hA.n, .cons (.coll s.ctr k0 (g2.le _ _ hρ0k) _ _) (hA.defers.mono fun _ _ h => h.mono (Ren.le_trans g01.le g2.le))⟩, fun b k cs eb hro hcalm => ?_⟩
        · rw [g2.old i (by rw [hsc]; omega)]
          exact g01.old i (by omega)
        · rw [r0.nup_trans r12, r1.nup_trans r2, e0', e2', ap_append, ap_append]
          exact i3
        · have hent : (Instr.enterLoop b.fn a.tmps ps assign body b.roundOf).run P w = .ok (w.heap.size + 1, [{ target := .collected w.heap.size, args := #[] }]) w1 := by
            rw [hro rfl, eb, ← hw1]
            exact run_enterLoop_outer F a.tmps ps assign body
          have s1 := range_runs (k := k) (cs := cs) hent efn hinv
          have s2 := s1.trans (.one (stepR_endRangeFunc hend))
          have hx' : After P x b { a with defers := { target := .collected w.heap.size, args := #[] } :: a.defers } k cs (w2.putObj (w.heap.size + 1) (.loop { state := .exhausted, pending := pend, fn := fn2, tmps := tmps2, params := ps2, assign := as, body := bd, defers := kd.a })) (lone (b.atR a (.code (.rangeFunc f ps assign body) :: k)) cs w) := by
            cases pend with
            | none => cases hx; exact s2
            | some c =>
              cases c <;> cases hx
              · exact ⟨k, rfl, s2⟩
              · exact ⟨k, s2⟩
          exact hx'
    · cases h
end Go.Proofs.YtbnmjdmbdoehlaaGreatDoor.Ev
