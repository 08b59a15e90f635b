/- Regions whose order is drawn. -/
import Derived.Test.YtbnmjdmbdoehlaaGreatDoorEm
namespace Go.Proofs.YtbnmjdmbdoehlaaGreatDoor.Ev
open Go Go.RowKit

def gtv (T : Tr Value) (t : Nat) : Value := match T.get t with | some v => v | none => undef
/-- What a slot's write is. -/
def wt1 (dst : Option Tmp) (N : Nat) (v : Value) : List (Nat × Value) := match dst with | some d => if d < N then [(d, v)] else [] | none => []

theorem Fr.put_n (fr : Fr) (dst : Option Tmp) (v : Value) : (fr.put dst v).n = fr.n ∧ (fr.put dst v).defers = fr.defers := by
  unfold Fr.put
  cases dst with
  | none => exact ⟨rfl, rfl⟩
  | some d => dsimp only; cases Nat.blt d fr.n <;> exact ⟨rfl, rfl⟩
theorem Fr.put_get {fr : Fr} (hn : fr.n ≤ lim) (dst : Option Tmp) (v : Value) : gtv (fr.put dst v).tmps = apF (gtv fr.tmps) (wt1 dst fr.n v) := by
  cases dst with
  | none => rfl
  | some d =>
    unfold Fr.put wt1
    dsimp only
    by_cases hd : d < fr.n
    · rw [lt_blt hd, if_pos hd]
      funext t
      show gtv (Tr.set (some v) 64 fr.tmps d) t = if t = d then v else gtv fr.tmps t
      unfold gtv
      rw [Tr.get_set _ _ _ _ _ (by have : d < 1099511627776 := Nat.lt_of_lt_of_le hd hn
                                   exact Nat.lt_trans (Nat.succ_lt_succ this) (by decide))]
      by_cases e : t = d
      · rw [if_pos e, if_pos e]
      · rw [if_neg e, if_neg e]
    · have hb : Nat.blt d fr.n = false := by
        cases h : Nat.blt d fr.n with
        | false => rfl
        | true => exact absurd (blt_lt h) hd
      rw [hb, if_neg hd]
      rfl

theorem put_rel {ρ : Ren} {g : Nat → Value} {a : Act} {N : Nat} (hs : a.tmps.size = N) (h : ∀ t, VR ρ (g t) (a.tmps.getD t undef)) (dst : Option Tmp) {v v' : Value} (hv : VR ρ v v') :
    (∀ t, VR ρ (apF g (wt1 dst N v) t) ((a.put dst v').tmps.getD t undef)) ∧ (a.put dst v').tmps.size = N ∧ (a.put dst v').defers = a.defers := by
  cases dst with
  | none => exact ⟨h, hs, rfl⟩
  | some d =>
    refine ⟨fun t => ?_, by simpa [Act.put] using hs, rfl⟩
    show VR ρ (apF g (if d < N then [(d, v)] else []) t) ((a.tmps.setIfInBounds d v').getD t undef)
    by_cases hd : d < N
    · rw [if_pos hd]
      show VR ρ (if t = d then v else g t) _
      by_cases e : t = d
      · subst e
        rw [if_pos rfl]
        have : (a.tmps.setIfInBounds t v').getD t undef = v' := by
          rw [Array.getD_eq_getD_getElem?, Array.getElem?_setIfInBounds_self_of_lt (by rw [hs]; exact hd)]; rfl
        rw [this]; exact hv
      · rw [if_neg e]
        have : (a.tmps.setIfInBounds d v').getD t undef = a.tmps.getD t undef := by
          rw [Array.getD_eq_getD_getElem?, Array.getElem?_setIfInBounds_ne (Ne.symm e), ← Array.getD_eq_getD_getElem?]
        rw [this]; exact h t
    · rw [if_neg hd]
      have e : a.tmps.setIfInBounds d v' = a.tmps := by
        apply Array.setIfInBounds_eq_of_size_le
        rw [hs]; exact Nat.le_of_not_lt hd
      rw [e]; exact h t

theorem yield_at {ρ : Ren} {T : Tr Value} {tmps : Array Value} {ops : Array Oper} {j : Nat} (h : ∀ d, (ops[j]?).bind (·.dst) = some d → VR ρ (gtv T d) (tmps.getD d undef)) : yieldT ops T j = yielded ops tmps j := by
  unfold yieldT yielded
  cases hd : (ops[j]?).bind (·.dst) with
  | none => rfl
  | some d =>
    simp only [Option.bind_some]
    have hv := h d hd
    unfold gtv at hv
    rw [Array.getD_eq_getD_getElem?] at hv
    cases hT : T.get d with
    | none =>
      rw [hT] at hv
      have hv' := (VR.tuple_iff.1 hv)
      obtain ⟨ys, hy, _⟩ := hv'
      cases ht : tmps[d]? with
      | none => rfl
      | some y => rw [ht] at hy; simp only [Option.getD_some] at hy; rw [hy]
    | some x =>
      rw [hT] at hv
      dsimp only at hv
      cases ht : tmps[d]? with
      | none =>
        rw [ht] at hv
        simp only [Option.getD_none] at hv
        generalize hu : undef = u at hv
        cases hv <;> first | rfl | (exfalso; unfold undef at hu; cases hu)
      | some y =>
        rw [ht] at hv
        simp only [Option.getD_some] at hv
        cases hv <;> rfl

theorem wanted_at {ρ : Ren} {T : Tr Value} {tmps : Array Value} {ops : Array Oper} {o : Oper} (h : ∀ d ∈ o.looksAt ops, VR ρ (gtv T d) (tmps.getD d undef)) : Region.wanted o (yieldT ops T) = Region.wanted o (yielded ops tmps) := by
  unfold Region.wanted
  cases hg : o.guard with
  | none => rfl
  | some gw =>
    obtain ⟨g, want⟩ := gw
    dsimp only
    rw [yield_at fun d hd => h d (by simp [Oper.looksAt, hg, hd])]

/-- One operation of the text's order. -/
inductive DStep (P : Program) (call : CallF) (rnd : Bool) (ops : Array Oper) (o : Oper) (fr : Fr) (s : St) : Value → Rec → Fr → St → Prop
  | skip (hw : Region.wanted o (yieldT ops fr.tmps) = false) : DStep P call rnd ops o fr s undef ⟨s.ctr, s.ctr, [], []⟩ (fr.put o.dst undef) s
  | go (hw : Region.wanted o (yieldT ops fr.tmps) = true) (v : Value) (s1 : St) (h : opGo P call rnd fr.tmps o ⟨s.heap, s.ctr, [], []⟩ = some (v, s1)) (hl : s1.ctr < lim) :
      DStep P call rnd ops o fr s v ⟨s.ctr, s1.ctr, s1.rd, s1.up⟩ (fr.put o.dst v) ⟨s1.heap, Nat.succ s1.ctr, s1.rd ++ s.rd, s1.up ++ s.up⟩

theorem draw_data {P : Program} {call : CallF} {rnd : Bool} {ops : Array Oper} : ∀ (l : List Oper) (fr : Fr) (s : St) (rs0 : List Rec) (fr' : Fr) (s' : St) (rs : List Rec), runDraw P call rnd ops l fr s rs0 = some (fr', s', rs) →
    ∃ (frs : Nat → Fr) (ss : Nat → St) (vs : Nat → Value) (R : Nat → Rec), frs 0 = fr ∧ ss 0 = s ∧ frs l.length = fr' ∧ ss l.length = s' ∧ rs = rs0.reverse ++ (List.range l.length).map R ∧
      ∀ j o, l[j]? = some o → DStep P call rnd ops o (frs j) (ss j) (vs j) (R j) (frs (j + 1)) (ss (j + 1)) := by
  intro l
  induction l with
  | nil =>
    intro fr s rs0 fr' s' rs h
    cases h
    exact ⟨fun _ => fr, fun _ => s, fun _ => undef, fun _ => ⟨0, 0, [], []⟩, rfl, rfl, rfl, rfl, by simp, fun j o h => by simp at h⟩
  | cons o l ih =>
    intro fr s rs0 fr' s' rs h
    unfold runDraw at h
    have key : ∀ v r fr1 s1, DStep P call rnd ops o fr s v r fr1 s1 → runDraw P call rnd ops l fr1 s1 (r :: rs0) = some (fr', s', rs) → ∃ (frs : Nat → Fr) (ss : Nat → St) (vs : Nat → Value) (R : Nat → Rec), frs 0 = fr ∧ ss 0 = s ∧ frs (l.length + 1) = fr' ∧ ss (l.length + 1) = s' ∧ rs = rs0.reverse ++ (List.range (l.length + 1)).map R ∧
      ∀ j o', (o :: l)[j]? = some o' → DStep P call rnd ops o' (frs j) (ss j) (vs j) (R j) (frs (j + 1)) (ss (j + 1)) := by
      intro v r fr1 s1 hd h
      obtain ⟨frs, ss, vs, R, h1, h2, h3, h4, h5, h6⟩ := ih _ _ _ _ _ _ h
      refine ⟨fun | 0 => fr | n + 1 => frs n, fun | 0 => s | n + 1 => ss n, fun | 0 => v | n + 1 => vs n, fun | 0 => r | n + 1 => R n, rfl, rfl, h3, h4, ?_, ?_⟩
      · rw [h5, List.reverse_cons, List.range_succ_eq_map, List.map_cons, List.map_map, List.append_assoc]
        rfl
      · intro j o' hj
        cases j with
        | zero =>
          simp at hj; subst hj
          show DStep P call rnd ops o fr s v r (frs 0) (ss 0)
          rw [h1, h2]; exact hd
        | succ j => exact h6 j o' (by simpa using hj)
    cases hw : Region.wanted o (yieldT ops fr.tmps) with
    | false => rw [hw] at h; exact key _ _ _ _ (.skip hw) h
    | true =>
      rw [hw] at h
      dsimp only [cond_true] at h
      split at h
      · rename_i v s1 hop
        cases hb : Nat.blt s1.ctr lim with
        | false => rw [hb] at h; cases h
        | true => rw [hb] at h; exact key _ _ _ _ (.go hw v s1 hop (blt_lt hb)) h
      · cases h

theorem DStep.ran {P : Program} {call : CallF} (hcall : CallOk P call) {rnd : Bool} {ops : Array Oper} {o : Oper} {fr fr' : Fr} {s s' : St} {v : Value} {r : Rec} (h : DStep P call rnd ops o fr s v r fr' s') (hg : Good s) :
    Ran s s' ∧ nrd s s' = r.rd ∧ nup s s' = r.up ∧ r.c = s.ctr ∧ r.c ≤ r.c' ∧ r.c' ≤ s'.ctr ∧ fr' = fr.put o.dst v := by
  cases h with
  | skip hw => exact ⟨Ran.refl hg, nrd_of rfl, nup_of rfl, rfl, Nat.le_refl _, Nat.le_refl _, rfl⟩
  | go hw v s1 h hl =>
    have hg0 : Good ⟨s.heap, s.ctr, [], []⟩ := hg
    obtain ⟨r, _⟩ := opGo_ok hcall h hg0
    have e1 : nrd (⟨s.heap, s.ctr, [], []⟩ : St) s1 = s1.rd := nrd_of (by simp)
    have e2 : nup (⟨s.heap, s.ctr, [], []⟩ : St) s1 = s1.up := nup_of (by simp)
    have e3 : nrd s ⟨s1.heap, Nat.succ s1.ctr, s1.rd ++ s.rd, s1.up ++ s.up⟩ = s1.rd := nrd_of rfl
    have e4 : nup s ⟨s1.heap, Nat.succ s1.ctr, s1.rd ++ s.rd, s1.up ++ s.up⟩ = s1.up := nup_of rfl
    have hc := r.ctr
    have hrd := r.rdlt
    have hup := r.uplt
    have hh := r.heap
    rw [e1] at hrd
    rw [e2] at hup hh
    refine ⟨⟨by rw [e3], by rw [e4], by rw [e4]; exact hh, Nat.le_succ_of_le hc, by rw [e3]; exact fun i hi => Nat.lt_succ_of_lt (hrd i hi), by rw [e4]; exact fun i hi => Nat.lt_succ_of_lt (hup i hi), hl, fun i o hi => Nat.lt_succ_of_lt (r.good.2 i o hi)⟩, e3, e4, rfl, hc, Nat.le_succ _, rfl⟩
end Go.Proofs.YtbnmjdmbdoehlaaGreatDoor.Ev
