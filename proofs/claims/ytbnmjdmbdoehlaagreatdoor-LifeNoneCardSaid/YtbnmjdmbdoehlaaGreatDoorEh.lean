/- What the evaluator's operations come to in the machine: an operation, whichever. -/
import Derived.Test.YtbnmjdmbdoehlaaGreatDoorEg
import Derived.Orders
namespace Go.Proofs.YtbnmjdmbdoehlaaGreatDoor.Ev
open Go Go.RowKit

section
variable {P : Program} {w0 : World} {ρ : Ren} {H : G} {w : World}

/-- An operation that ends at once: what it leaves in its slot. -/
def OpDoes (P : Program) (w0 : World) (ρ : Ren) (H : G) (w : World) (s : Sem Next) (c : Nat) (E : E) : Prop :=
  ∃ ρ' v' w' nx, s.run P w = .ok nx w' ∧ (nx = .value v' ∨ (nx = .skip ∧ v' = undef)) ∧ Goes P w0 ρ c (c + E.n) ρ' (ap H E.up) w' ∧ VR ρ' E.v v'

theorem SemDoes.op {s : Sem Value} {c : Nat} {E : E} (h : SemDoes P w0 ρ H w s c E) : OpDoes P w0 ρ H w (do pure (.value (← s))) c E := by
  obtain ⟨ρ', v', w', h1, h2, h3⟩ := h
  exact ⟨ρ', v', w', .value v', by simp [h1], .inl rfl, h2, h3⟩
theorem UnitDoes.op {s : Sem Unit} {c : Nat} {E : E} (h : UnitDoes P w0 ρ H w s c E) : OpDoes P w0 ρ H w (do s; pure .skip) c E := by
  obtain ⟨h0, ρ', w', h1, h2⟩ := h
  exact ⟨ρ', undef, w', .skip, by simp [h1], .inr ⟨rfl, rfl⟩, h2, by rw [h0]; exact vr_nil⟩

theorem ev_rel {T : Tr Value} {n : Nat} {a : Act} (hT : TR ρ T n a.tmps) {x : Operand} (hx : okOperand x = true) : VR ρ (ev T x) (a.eval x) := by
  cases x with
  | tmp t => exact hT.2 t
  | const v => exact VR.refl v hx
  | global g => cases hx
  | func f => exact VR.func_iff.2 ⟨_, _, _, rfl, .func f, .nil, .nil⟩

/-- What an operation looks at stands for what the machine's looks at. -/
def OpndR (ρ : Ren) (T : Tr Value) (o : Oper) (a : Act) : Prop := ∀ t, Operand.tmp t ∈ o.op.operands → VR ρ (match T.get t with | some v => v | none => undef) (a.tmps.getD t undef)
theorem TR.opnd {T : Tr Value} {n : Nat} {a : Act} (hT : TR ρ T n a.tmps) (o : Oper) : OpndR ρ T o a := fun t _ => hT.2 t
theorem OpndR.ev {T : Tr Value} {a : Act} {o : Oper} (hT : OpndR ρ T o a) {x : Operand} (hx : okOperand x = true) (hm : x ∈ o.op.operands) : VR ρ (Ev.ev T x) (a.eval x) := by
  cases x with
  | tmp t => exact hT t hm
  | const v => exact VR.refl v hx
  | global g => cases hx
  | func f => exact VR.func_iff.2 ⟨_, _, _, rfl, .func f, .nil, .nil⟩

theorem plain_does (hI : Inv P w0 ρ H w) {e e' : Operand → Value} {o : Oper} (hs : ∀ cs b, o.op ≠ .select cs b) (he : ∀ x ∈ o.op.operands, VR ρ (e x) (e' x)) {E : E} (h : plainOp P e o = some E) (c : Nat) : OpDoes P w0 ρ H w (execOp e' o) c E := by
  unfold plainOp at h
  cases ha : o.op.operands.toList.all (fun x => noAddr (e x)) with
  | false => rw [ha] at h; cases h
  | true =>
    rw [ha] at h
    dsimp only [cond_true] at h
    have hc : execOp e' o = execOp e o := execOp_congr o hs fun x hx => (he x hx).eq (List.all_eq_true.1 ha x (by simpa using hx))
    rw [hc]
    split at h
    · rename_i v hv
      cases hn : noAddr v with
      | false => rw [hn] at h; cases h
      | true =>
        rw [hn] at h
        cases h
        exact ⟨ρ, v, w, .value v, plain_run hv w, .inl rfl, hI.same c, VR.refl v hn⟩
    · cases h

theorem l2_map {α : Type} {l : List α} {f g : α → Value} (h : ∀ x ∈ l, VR ρ (f x) (g x)) : LR ρ (l.map f) (l.map g) := by
  induction l with
  | nil => exact .nil
  | cons a l ih => exact .cons (h a (by simp)) (ih fun x hx => h x (List.mem_cons_of_mem _ hx))

theorem orel_map {r : Option Operand} {f g : Operand → Value} (h : ∀ x, r = some x → VR ρ (f x) (g x)) : ORel ρ (r.map f) (r.map g) := by
  cases r with
  | none => exact .inl ⟨rfl, rfl⟩
  | some x => exact .inr ⟨_, _, rfl, rfl, h x rfl⟩

theorem parts_rel {T : Tr Value} {a : Act} {ps : Array (Nat × Operand)} (h : ∀ p ∈ ps, VR ρ (ev T p.2) (a.eval p.2)) : L2 (fun (p q : Nat × Value) => q.1 = p.1 ∧ VR ρ p.2 q.2) (ps.toList.map fun p => (p.1, ev T p.2)) (ps.map fun (i, x) => (i, a.eval x)).toList := by
  rw [Array.toList_map]
  have key : ∀ l : List (Nat × Operand), (∀ p ∈ l, VR ρ (ev T p.2) (a.eval p.2)) → L2 (fun (p q : Nat × Value) => q.1 = p.1 ∧ VR ρ p.2 q.2) (l.map fun p => (p.1, ev T p.2)) (l.map fun (i, x) => (i, a.eval x)) := by
    intro l hl
    induction l with
    | nil => exact .nil
    | cons p l ih => exact .cons ⟨rfl, hl p (by simp)⟩ (ih fun q hq => hl q (List.mem_cons_of_mem _ hq))
  exact key _ fun p hp => h p (by simpa using hp)

theorem lr_one {x : Value} {ys : Array Value} (h : LR ρ [x] ys.toList) : ∃ x', ys = #[x'] ∧ VR ρ x x' := by
  obtain ⟨x', m, hm, hx, ht⟩ := h.inv_cons
  rw [ht.inv_nil] at hm
  exact ⟨x', Array.toList_inj.1 hm, hx⟩
theorem lr_two {x y : Value} {ys : Array Value} (h : LR ρ [x, y] ys.toList) : ∃ x' y', ys = #[x', y'] ∧ VR ρ x x' ∧ VR ρ y y' := by
  obtain ⟨x', m, hm, hx, ht⟩ := h.inv_cons
  obtain ⟨y', m', hm', hy, ht'⟩ := ht.inv_cons
  rw [ht'.inv_nil] at hm'
  rw [hm'] at hm
  exact ⟨x', y', Array.toList_inj.1 hm, hx, hy⟩

theorem opBuiltin_does (hI : Inv P w0 ρ H w) {e : Operand → Value} {o : Oper} {b : Builtin} {ats : Array TypeId} {l : List Value} {args' : Array Value} (hl : LR ρ l args'.toList) {c : Nat} (hc : ρ c = none) {E : E} (h : opBuiltin P e H c o b ats l = some E) (ty : TypeId) (consts : Array Bool) :
    OpDoes P w0 ρ H w (builtin b ats ty consts args') c E ∨ plainOp P e o = some E := by
  unfold opBuiltin at h
  split at h
  · obtain ⟨x', rfl, hx⟩ := lr_one hl
    exact .inl (opLen_does (ty := ty) hI hx h c).op
  · obtain ⟨x', rfl, hx⟩ := lr_one hl
    exact .inl (opCap_does (ty := ty) hI hx h c).op
  · obtain ⟨x', y', rfl, hx, hy⟩ := lr_two hl
    exact .inl (opAppend_does (ty := ty) hI hx hy hc h).op
  · obtain ⟨x', y', rfl, hx, hy⟩ := lr_two hl
    exact .inl (opCopy_does (ty := ty) hI hx hy h c).op
  · obtain ⟨x', rfl, hx⟩ := lr_one hl
    exact .inl (opClear_does (ty := ty) hI hx h c).op
  · cases h
  · exact .inr h

set_option maxHeartbeats 1000000 in
theorem evOp_does (hI : Inv P w0 ρ H w) {T : Tr Value} {a : Act} {o : Oper} (hT : OpndR ρ T o a) (hok : o.op.operands.toList.all okOperand = true) {c : Nat} (hc : ρ c = none) {E : E} (h : evOp P T o H c = some E) :
    OpDoes P w0 ρ H w (execOp a.eval o) c E := by
  have hev : ∀ x ∈ o.op.operands, VR ρ (ev T x) (a.eval x) := fun x hx => hT.ev (List.all_eq_true.1 hok x (by simpa using hx)) hx
  unfold evOp at h
  split at h
  · rename_i x ho
    have h1 := hev x (by simp [ho, Op.operands])
    cases h
    simp only [execOp, ho]
    exact ⟨ρ, _, w, _, rfl, .inl rfl, hI.same c, h1⟩
  · rename_i x ho
    have h1 := hev x (by simp [ho, Op.operands])
    cases h
    simp only [execOp, ho]
    exact ⟨ρ, _, w, _, rfl, .inl rfl, hI.same c, h1⟩
  · rename_i b x y ho
    have h1 := hev b (by simp [ho, Op.operands])
    have h2 := hev x (by simp [ho, Op.operands])
    have h3 := hev y (by simp [ho, Op.operands])
    simp only [execOp, ho]
    split at h
    · rename_i d hd
      rw [hd] at h1
      generalize a.eval b = b' at h1
      cases h1
      cases h
      cases d with
      | true => exact ⟨ρ, _, w, _, by simp [asBool], .inl rfl, hI.same c, h2⟩
      | false => exact ⟨ρ, _, w, _, by simp [asBool], .inl rfl, hI.same c, h3⟩
    · cases h
  · rename_i el ho
    simp only [execOp, ho]
    exact (opAlloc_does hI hc h).op
  · rename_i el x ho
    have h1 := hev x (by simp [ho, Op.operands])
    simp only [execOp, ho]
    exact (opBox_does hI hc h1 h).op
  · rename_i ty ps ho
    have h1 : ∀ p ∈ ps, VR ρ (ev T p.2) (a.eval p.2) := fun p hp => hev p.2 (by simp [ho, Op.operands]; exact ⟨p.1, hp⟩)
    simp only [execOp, ho]
    exact (opBuild_does hI (parts_rel h1) h c).op
  · rename_i ty len ps ho
    have h1 : ∀ p ∈ ps, VR ρ (ev T p.2) (a.eval p.2) := fun p hp => hev p.2 (by simp [ho, Op.operands]; exact ⟨p.1, hp⟩)
    simp only [execOp, ho]
    exact (opBuildSlice_does hI hc (parts_rel h1) h).op
  · rename_i ty x ho
    have h1 := hev x (by simp [ho, Op.operands])
    simp only [execOp, ho]
    exact (opLoad_does hI h1 h c).op
  · rename_i ty x y ho
    have h1 := hev x (by simp [ho, Op.operands])
    have h2 := hev y (by simp [ho, Op.operands])
    simp only [execOp, ho]
    exact (opStore_does hI h1 h2 h c).op
  · rename_i x ho
    have h1 := hev x (by simp [ho, Op.operands])
    simp only [execOp, ho]
    obtain ⟨h0, n1, n2, n3, n4⟩ := opNilCheck_val h
    cases h0
    generalize ev T x = y at h1 n1 n2 n3 n4
    generalize a.eval x = y' at h1
    refine ⟨ρ, y', w, .value y', ?_, .inl rfl, hI.same c, h1⟩
    cases h1 with
    | ptrNil => exact absurd rfl n1
    | nilIface => exact absurd rfl n2
    | nilFunc => exact absurd rfl n3
    | func fn fn' fs fs' cs cs' hf _ _ _ _ => cases hf <;> rfl
    | _ => rfl
  · rename_i op ty x y yt ho
    have h1 := hev x (by simp [ho, Op.operands])
    have h2 := hev y (by simp [ho, Op.operands])
    rcases opBin_does hI h1 h2 h x y c with h3 | h3
    · simp only [execOp, ho]
      exact h3.op
    · exact plain_does hI (fun _ _ e => by rw [ho] at e; cases e) hev h3 c
  · rename_i src dst x ho
    have h1 := hev x (by simp [ho, Op.operands])
    rcases opConvert_does hI h1 hc h with h3 | h3
    · simp only [execOp, ho]
      exact h3.op
    · exact plain_does hI (fun _ _ e => by rw [ho] at e; cases e) hev h3 c
  · rename_i ty x ho
    have h1 := hev x (by simp [ho, Op.operands])
    simp only [execOp, ho]
    exact (opMakeIface_does hI h1 h c).op
  · rename_i fn first captured ho
    simp only [execOp, ho]
    refine (opMakeFunc_does hI ?_ ?_ h c).op
    · rw [Array.toList_map, Array.toList_map]; exact l2_map fun x hx => hev x (by simp [ho, Op.operands]; exact .inl (by simpa using hx))
    · rw [Array.toList_map, Array.toList_map]; exact l2_map fun x hx => hev x (by simp [ho, Op.operands]; exact .inr (by simpa using hx))
  · rename_i ty r ho
    simp only [execOp, ho]
    exact (opMakeMap_does hI hc (orel_map fun x hx => hev x (by simp [ho, Op.operands, hx])) h).op
  · rename_i ty l k ho
    have h1 := hev l (by simp [ho, Op.operands])
    have h2 := hev k (by simp [ho, Op.operands])
    simp only [execOp, ho]
    exact (opMakeSlice_does hI hc h1 h2 h).op
  · rename_i ty x lo hi mx ho
    have h1 := hev x (by simp [ho, Op.operands])
    by_cases hstr : ∃ b, ev T x = .string b
    · obtain ⟨b, hb⟩ := hstr
      have h3 : plainOp P (ev T) o = some E := by unfold opSlice at h; rw [hb] at h; exact h
      exact plain_does hI (fun _ _ e => by rw [ho] at e; cases e) hev h3 c
    · simp only [execOp, ho]
      exact (opSlice_does hI h1 (orel_map fun y hy => hev y (by simp [ho, Op.operands, hy])) (orel_map fun y hy => hev y (by simp [ho, Op.operands, hy])) (orel_map fun y hy => hev y (by simp [ho, Op.operands, hy])) h (fun b hb => hstr ⟨b, hb⟩) c).op
  · rename_i ty x f ho
    have h1 := hev x (by simp [ho, Op.operands])
    simp only [execOp, ho]
    exact (opFieldAddr_does hI h1 h c).op
  · rename_i ty x f ho
    have h1 := hev x (by simp [ho, Op.operands])
    simp only [execOp, ho]
    exact (opField_does hI h1 h c).op
  · rename_i ty x ix ho
    have h1 := hev x (by simp [ho, Op.operands])
    have h2 := hev ix (by simp [ho, Op.operands])
    simp only [execOp, ho]
    exact (opIndexAddr_does hI h1 h2 h c).op
  · rename_i ty x ix ho
    have h1 := hev x (by simp [ho, Op.operands])
    have h2 := hev ix (by simp [ho, Op.operands])
    rcases opIndex_does hI h1 h2 h c with h3 | h3
    · simp only [execOp, ho]
      exact h3.op
    · exact plain_does hI (fun _ _ e => by rw [ho] at e; cases e) hev h3 c
  · rename_i ty x k ok ho
    have h1 := hev x (by simp [ho, Op.operands])
    have h2 := hev k (by simp [ho, Op.operands])
    simp only [execOp, ho]
    exact (opLookup_does hI h1 h2 h c).op
  · rename_i ty m k x ho
    have h1 := hev m (by simp [ho, Op.operands])
    have h2 := hev k (by simp [ho, Op.operands])
    have h3 := hev x (by simp [ho, Op.operands])
    simp only [execOp, ho]
    exact (opMapUpdate_does hI h1 h2 h3 h c).op
  · rename_i ty m k x ho
    have h1 := hev m (by simp [ho, Op.operands])
    have h2 := hev k (by simp [ho, Op.operands])
    have h3 := hev x (by simp [ho, Op.operands])
    simp only [execOp, ho]
    exact (opMapUpdate_does hI h1 h2 h3 h c).op
  · rename_i ty m k ho
    have h1 := hev m (by simp [ho, Op.operands])
    have h2 := hev k (by simp [ho, Op.operands])
    simp only [execOp, ho]
    exact (opMapEntry_does hI h1 h2 h c).op
  · rename_i ty m st x ho
    have h1 := hev m (by simp [ho, Op.operands])
    have h2 := hev st (by simp [ho, Op.operands])
    have h3 := hev x (by simp [ho, Op.operands])
    simp only [execOp, ho]
    exact (opEntryStore_does (t := ty) hI h1 h2 h3 h c).op
  · rename_i ty x ho
    have h1 := hev x (by simp [ho, Op.operands])
    simp only [execOp, ho]
    exact (opRange_does hI h1 hc h).op
  · rename_i it isS ho
    have h1 := hev it (by simp [ho, Op.operands])
    simp only [execOp, ho]
    exact (opNext_does hI h1 o.type h c).op
  · rename_i it ho
    have h1 := hev it (by simp [ho, Op.operands])
    simp only [execOp, ho]
    exact (opEntry_does hI h1 h c).op
  · rename_i x xt asserted ok ho
    have h1 := hev x (by simp [ho, Op.operands])
    simp only [execOp, ho]
    exact (opTypeAssert_does (xt := xt) hI h1 h c).op
  · rename_i x i ho
    have h1 := hev x (by simp [ho, Op.operands])
    simp only [execOp, ho]
    exact (opExtract_does hI h1 h c).op
  · rename_i b args ats ho
    have hargs : ∀ x ∈ args, VR ρ (ev T x) (a.eval x) := fun x hx => hev x (by simp [ho, Op.operands, Call.operands]; exact hx)
    have hl : LR ρ (args.toList.map (ev T)) (args.map a.eval).toList := by
      rw [Array.toList_map]; exact l2_map fun x hx => hargs x (by simpa using hx)
    rcases opBuiltin_does hI hl hc h o.type (args.map fun | .const _ => true | _ => false) with h3 | h3
    · simp only [execOp, ho, resolve]
      exact h3
    · exact plain_does hI (fun _ _ e => by rw [ho] at e; cases e) hev h3 c
  · rename_i op xt x ho
    exact plain_does hI (fun _ _ e => by rw [ho] at e; cases e) hev h c
  · cases h
end
end Go.Proofs.YtbnmjdmbdoehlaaGreatDoor.Ev
