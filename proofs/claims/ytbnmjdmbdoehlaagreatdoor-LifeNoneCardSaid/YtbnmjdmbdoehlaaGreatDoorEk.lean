/- Runs of the evaluator and of the machine: how they go on one behind the other. -/
import Derived.Test.YtbnmjdmbdoehlaaGreatDoorEi
import Derived.Test.YtbnmjdmbdoehlaaGreatDoorEj
namespace Go.Proofs.YtbnmjdmbdoehlaaGreatDoor.Ev
open Go Go.RowKit

def Good (s : St) : Prop := s.ctr ≤ lim ∧ ∀ i o, s.heap.get i = some o → i < s.ctr
def nrd (s s' : St) : List Nat := s'.rd.take (s'.rd.length - s.rd.length)
def nup (s s' : St) : Up := s'.up.take (s'.up.length - s.up.length)
/-- What a run of the evaluator keeps. -/
structure Ran (s s' : St) : Prop where
  rd : s'.rd = nrd s s' ++ s.rd
  up : s'.up = nup s s' ++ s.up
  heap : s'.heap.get = ap s.heap.get (nup s s')
  ctr : s.ctr ≤ s'.ctr
  rdlt : ∀ i ∈ nrd s s', i < s'.ctr
  uplt : ∀ p ∈ nup s s', p.1 < s'.ctr
  good : Good s'

theorem nrd_of {s s' : St} {rd : List Nat} (h : s'.rd = rd ++ s.rd) : nrd s s' = rd := by unfold nrd; rw [h]; simp
theorem nup_of {s s' : St} {up : Up} (h : s'.up = up ++ s.up) : nup s s' = up := by unfold nup; rw [h]; simp

theorem Ran.refl {s : St} (h : Good s) : Ran s s := by
  have e1 : nrd s s = [] := nrd_of rfl
  have e2 : nup s s = [] := nup_of rfl
  exact ⟨by rw [e1]; rfl, by rw [e2]; rfl, by rw [e2]; rfl, Nat.le_refl _, by rw [e1]; simp, by rw [e2]; simp, h⟩
theorem Ran.nrd_trans {s s1 s2 : St} (h : Ran s s1) (k : Ran s1 s2) : nrd s s2 = nrd s1 s2 ++ nrd s s1 := nrd_of (by rw [k.rd, h.rd, List.append_assoc])
theorem Ran.nup_trans {s s1 s2 : St} (h : Ran s s1) (k : Ran s1 s2) : nup s s2 = nup s1 s2 ++ nup s s1 := nup_of (by rw [k.up, h.up, List.append_assoc])
theorem Ran.trans {s s1 s2 : St} (h : Ran s s1) (k : Ran s1 s2) : Ran s s2 := by
  have e1 := h.nrd_trans k
  have e2 := h.nup_trans k
  have hc := k.ctr
  refine ⟨by rw [e1, List.append_assoc, ← h.rd]; exact k.rd, by rw [e2, List.append_assoc, ← h.up]; exact k.up, by rw [e2, ap_append, ← h.heap]; exact k.heap, Nat.le_trans h.ctr hc, ?_, ?_, k.good⟩
  · intro i hi
    rw [e1] at hi
    rcases List.mem_append.1 hi with hi | hi
    · exact k.rdlt i hi
    · exact Nat.lt_of_lt_of_le (h.rdlt i hi) hc
  · intro i hi
    rw [e2] at hi
    rcases List.mem_append.1 hi with hi | hi
    · exact k.uplt i hi
    · exact Nat.lt_of_lt_of_le (h.uplt i hi) hc

/-- What the machine does, where the evaluator comes from s to s'. -/
def Run (P : Program) (s s' : St) (A : Ren → World → Prop) (B : World → Ren → World → Prop) : Prop :=
  ∀ (w0 : World) (ρ : Ren) (H : G) (w : World), A ρ w → (∀ i ∈ nrd s s', H i = s.heap.get i) → Inv P w0 ρ H w → (∀ i, s.ctr ≤ i → i ≤ s'.ctr → ρ i = none) →
    ∃ ρ' w', Goes P w0 ρ s.ctr s'.ctr ρ' (ap H (nup s s')) w' ∧ B w ρ' w'

theorem Run.refl {P : Program} {s : St} {A : Ren → World → Prop} {B : World → Ren → World → Prop} (h : ∀ ρ w, A ρ w → B w ρ w) : Run P s s A B := by
  intro w0 ρ H w hA _ hI _
  have e2 : nup s s = [] := nup_of rfl
  rw [e2]
  exact ⟨ρ, w, hI.same _, h ρ w hA⟩

theorem Goes.trans {P : Program} {w0 : World} {ρ ρ1 ρ2 : Ren} {c c1 c2 : Nat} {H1 H2 : G} {w1 w2 : World} (h : Goes P w0 ρ c c1 ρ1 H1 w1) (k : Goes P w0 ρ1 c1 c2 ρ2 H2 w2) (hc : c ≤ c1) (hc2 : c1 ≤ c2) : Goes P w0 ρ c c2 ρ2 H2 w2 :=
  ⟨Ren.le_trans h.le k.le, fun i hi => (k.old i (by omega)).trans (h.old i (by omega)), k.inv⟩

theorem Run.bind {P : Program} {s s1 s2 : St} {A : Ren → World → Prop} {B B3 : World → Ren → World → Prop} {C : Type} {A2 : C → Ren → World → Prop} {B2 : C → World → Ren → World → Prop}
    (r1 : Ran s s1) (r2 : Ran s1 s2) (h1 : Run P s s1 A B) (h2 : ∀ x, Run P s1 s2 (A2 x) (B2 x)) (link : ∀ ρ w ρ1 w1, A ρ w → ρ.le ρ1 → B w ρ1 w1 → ∃ x, A2 x ρ1 w1 ∧ ∀ ρ2 w2, ρ1.le ρ2 → B2 x w1 ρ2 w2 → B3 w ρ2 w2) : Run P s s2 A B3 := by
  intro w0 ρ H w hA hag hI hfr
  have e1 := r1.nrd_trans r2
  have e2 := r1.nup_trans r2
  have c1 := r1.ctr
  have c2 := r2.ctr
  rw [e1] at hag
  obtain ⟨ρ1, w1, g1, b1⟩ := h1 w0 ρ H w hA (fun i hi => hag i (List.mem_append_right _ hi)) hI (fun i h1 h2 => hfr i h1 (by omega))
  obtain ⟨x, a2, l2⟩ := link ρ w ρ1 w1 hA g1.le b1
  obtain ⟨ρ2, w2, g2, b2⟩ := h2 x w0 ρ1 (ap H (nup s s1)) w1 a2 (fun i hi => by rw [r1.heap]; exact ap_agree (hag i (List.mem_append_left _ hi))) g1.inv (fun i h1 h2 => by rw [g1.old i (by omega)]; exact hfr i (by omega) h2)
  refine ⟨ρ2, w2, ?_, l2 ρ2 w2 g2.le b2⟩
  rw [e2, ap_append]
  exact g1.trans g2 c1 c2

/-- One step of the evaluator. -/
theorem ran_eff {s : St} (hg : Good s) {rd : List Nat} {up : Up} {n : Nat} (hl : s.ctr + n ≤ lim) (hrd : ∀ i ∈ rd, i < s.ctr + n) (hup : ∀ p ∈ up, p.1 < s.ctr + n) : Ran s (s.eff rd up n) ∧ nrd s (s.eff rd up n) = rd ∧ nup s (s.eff rd up n) = up := by
  have e1 : nrd s (s.eff rd up n) = rd := nrd_of rfl
  have e2 : nup s (s.eff rd up n) = up := nup_of rfl
  have hh : (s.eff rd up n).heap.get = ap s.heap.get up := apTr_get fun p hp => Nat.lt_of_lt_of_le (hup p hp) hl
  refine ⟨⟨by rw [e1]; rfl, by rw [e2]; rfl, by rw [e2]; exact hh, Nat.le_add_right _ _, by rw [e1]; exact hrd, by rw [e2]; exact hup, hl, fun i o hi => ?_⟩, e1, e2⟩
  rw [hh] at hi
  by_cases e : ∃ p ∈ up, p.1 = i
  · obtain ⟨p, hp, rfl⟩ := e
    exact hup p hp
  · rw [ap_other fun p hp he => e ⟨p, hp, he⟩] at hi
    exact Nat.lt_of_lt_of_le (hg.2 i o hi) (Nat.le_add_right _ _)

/- Frames. -/
inductive DR (ρ : Ren) : Deferred → Deferred → Prop
  | fn (g : FuncId) (cap cap' args args' : Array Value) (h1 : LR ρ cap.toList cap'.toList) (h2 : LR ρ args.toList args'.toList) : DR ρ { target := .fn (.func g) cap, args } { target := .fn (.func g) cap', args := args' }
  | coll (r : Nat) (k : Blk) (h : ρ r = some k) (args args' : Array Value) : DR ρ { target := .collected r, args } { target := .collected k.a, args := args' }
theorem DR.mono {ρ ρ' : Ren} (hρ : ρ.le ρ') {d d' : Deferred} (h : DR ρ d d') : DR ρ' d d' := by
  cases h with
  | fn g cap cap' args args' h1 h2 => exact .fn g cap cap' args args' (h1.mono hρ) (h2.mono hρ)
  | coll r k h args args' => exact .coll r k (hρ _ _ h) args args'

structure FR (ρ : Ren) (fr : Fr) (a : Act) : Prop where
  tmps : TR ρ fr.tmps fr.n a.tmps
  n : fr.n ≤ lim
  defers : L2 (DR ρ) fr.defers a.defers
theorem FR.mono {ρ ρ' : Ren} (hρ : ρ.le ρ') {fr : Fr} {a : Act} (h : FR ρ fr a) : FR ρ' fr a := ⟨h.tmps.mono hρ, h.n, h.defers.mono fun _ _ h => h.mono hρ⟩

theorem TR.set {ρ : Ren} {T : Tr Value} {n : Nat} {tmps : Array Value} (h : TR ρ T n tmps) (hn : n ≤ lim) {d : Nat} {v v' : Value} (hv : VR ρ v v') (hd : d < n) : TR ρ (Tr.set (some v) 64 T d) n (tmps.setIfInBounds d v') := by
  refine ⟨by simpa using h.1, fun t => ?_⟩
  rw [Tr.get_set _ _ _ _ _ (by unfold lim at hn; omega)]
  by_cases e : t = d
  · subst e
    rw [if_pos rfl]
    have : (tmps.setIfInBounds t v').getD t undef = v' := by
      rw [Array.getD_eq_getD_getElem?, Array.getElem?_setIfInBounds_self_of_lt (by rw [h.1]; exact hd)]; rfl
    rw [this]; exact hv
  · rw [if_neg e]
    have : (tmps.setIfInBounds d v').getD t undef = tmps.getD t undef := by
      rw [Array.getD_eq_getD_getElem?, Array.getElem?_setIfInBounds_ne (Ne.symm e), ← Array.getD_eq_getD_getElem?]
    rw [this]; exact h.2 t

theorem FR.put {ρ : Ren} {fr : Fr} {a : Act} (h : FR ρ fr a) (d : Option Tmp) {v v' : Value} (hv : VR ρ v v') : FR ρ (fr.put d v) (a.put d v') := by
  cases d with
  | none => exact h
  | some d =>
    unfold Fr.put Act.put
    dsimp only
    cases hb : Nat.blt d fr.n with
    | true => exact ⟨h.tmps.set h.n hv (blt_lt hb), h.n, h.defers⟩
    | false =>
      have hge : ¬ d < fr.n := fun e => by rw [lt_blt e] at hb; cases hb
      have e : a.tmps.setIfInBounds d v' = a.tmps := by
        apply Array.setIfInBounds_eq_of_size_le
        rw [h.tmps.1]; exact Nat.le_of_not_lt hge
      dsimp only [cond_false]
      rw [e]
      exact ⟨h.tmps, h.n, h.defers⟩

theorem vr_undef {ρ : Ren} : VR ρ undef undef := vr_nil

theorem yield_eq {ρ : Ren} {T : Tr Value} {n : Nat} {tmps : Array Value} (h : TR ρ T n tmps) (ops : Array Oper) : yieldT ops T = yielded ops tmps := by
  funext j
  unfold yieldT yielded
  cases hd : (ops[j]?).bind (·.dst) with
  | none => rfl
  | some d =>
    simp only [Option.bind_some]
    have hv := h.2 d
    rw [Array.getD_eq_getD_getElem?] at hv
    cases hT : T.get d with
    | none =>
      rw [hT] at hv
      have hv' := (VR.tuple_iff.1 hv)
      obtain ⟨ys, hy, _⟩ := hv'
      cases ht : tmps[d]? with
      | none => rfl
      | some y => rw [ht] at hy; simp only [Option.getD_some] at hy; rw [hy]
    | some x =>
      rw [hT] at hv
      dsimp only at hv
      cases ht : tmps[d]? with
      | none =>
        rw [ht] at hv
        simp only [Option.getD_none] at hv
        generalize hu : undef = u at hv
        cases hv <;> first | rfl | (exfalso; unfold undef at hu; cases hu)
      | some y =>
        rw [ht] at hv
        simp only [Option.getD_some] at hv
        cases hv <;> rfl

/- One operation, in the machine. -/
def Calm (kind : CallKind) (cs : List Frame) : Prop := kind = .normal ∨ (kind = .deferred ∧ ∃ c r, cs = c :: r ∧ c.mode = .returning)

def OpRuns (P : Program) (rnd : Bool) (o : Oper) (a : Act) (w : World) (v' : Value) (w' : World) : Prop :=
  ∀ (b : Frame) (ops : Array Oper) (i : Nat) (rest : List Nat) (k : List Item) (cs : List Frame), (rnd = false → b.roundOf = none) → Calm b.kind cs → ops[i]? = some o → Region.wanted o (yielded ops a.tmps) = true →
    Steps P (lone (b.atR a (.inRegion ops (i :: rest) :: k)) cs w) (lone (b.atR (a.put o.dst v') (.inRegion ops rest :: k)) cs w')

/-- What is left of a function's call when its results stand. -/
def BodyRet (P : Program) (f : FuncId) (as : Array Value) (w : World) (v' : Value) (w' : World) : Prop :=
  ∀ (kind : CallKind) (cs : List Frame), Calm kind cs → ∃ fr, Steps P (lone (Frame.enter P f as kind) cs w) (lone fr cs w') ∧ fr.kind = kind ∧ fr.mode = .returning ∧ fr.defers = [] ∧ fr.fn = f ∧
    ∃ fn, P.funcs[f]? = some fn ∧ (results fn fr.tmps).run P w' = .ok v' w'
def RoundRet (P : Program) (l : Nat) (f : FuncId) (tmps : Array Value) (assign body : Code) (w : World) (v' : Value) (w' : World) : Prop :=
  ∀ (c : Frame) (cs : List Frame), Steps P (lone (Frame.round l f tmps assign body .normal) (c :: cs) w) (lone (c.finish v') cs w')
inductive InvRet (P : Program) (fn : Fn) (cap args : Array Value) (w : World) (v' : Value) (w' : World) : Prop
  | body (f : FuncId) (as : Array Value) (h : (invoke (.fn fn cap) args).run P w = .ok (.enter f as) w) (hb : BodyRet P f as w v' w')
  | val (h : (invoke (.fn fn cap) args).run P w = .ok (.value v') w')
  | round (l : Nat) (f : FuncId) (tmps : Array Value) (assign body : Code) (h : (invoke (.fn fn cap) args).run P w = .ok (.round l f tmps assign body) w) (hr : RoundRet P l f tmps assign body w v' w')

/-- What is asked of calls. -/
def CallOk (P : Program) (call : CallF) : Prop :=
  ∀ fv args s v s', call fv args s = some (v, s') → Good s → Ran s s' ∧
    ∀ (fv' : Value) (args' : List Value), Run P s s' (fun ρ _ => VR ρ fv fv' ∧ LR ρ args args') fun w ρ' w' => ∃ v' fn first cap, fv' = .func fn first cap ∧ VR ρ' v v' ∧ InvRet P fn cap (first ++ args'.toArray) w v' w'

theorem opDoes_runs {P : Program} {rnd : Bool} {o : Oper} {a : Act} {w w' : World} {v' : Value} {nx : Next} (hd : ∀ c, o.op ≠ .defer c) (h : (execOp a.eval o).run P w = .ok nx w') (hn : nx = .value v' ∨ (nx = .skip ∧ v' = undef)) : OpRuns P rnd o a w v' w' := by
  intro b ops i rest k cs _ _ ho hw
  refine .one (step_lone_go ?_)
  have hf : ∀ v, (b.atR a (.inRegion ops (i :: rest) :: k)).finish v = b.atR (a.put o.dst v) (.inRegion ops rest :: k) := by
    intro v; rw [Frame.finish_atR, ho]; rfl
  rw [stepGR_op ho hw, Oper.semAt_eq _ _ _ hd, ← hf]
  rcases hn with rfl | ⟨rfl, rfl⟩
  · simp [stepG.apply, h, Sem.runT_eq]
  · simp [stepG.apply, h, Sem.runT_eq]
end Go.Proofs.YtbnmjdmbdoehlaaGreatDoor.Ev
