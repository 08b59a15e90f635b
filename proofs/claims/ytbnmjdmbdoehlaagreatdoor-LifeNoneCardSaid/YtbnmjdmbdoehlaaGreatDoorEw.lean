/- A closed run: what the evaluator says, the machine does. -/
import Derived.Test.YtbnmjdmbdoehlaaGreatDoorEu
namespace Go.Proofs.YtbnmjdmbdoehlaaGreatDoor.Ev
open Go Go.RowKit

def st0 : St := ⟨.lf, 0, [], []⟩

theorem closed_run {P : Program} {pr : Prims} (hP : POk P pr) {n f : Nat} {v : Value} {s' : St} (hb : hasBody P f = true) (h : callN P pr n (.func (.func f) #[] #[]) [] st0 = some (v, s')) (hv : noAddr v = true) (w : World) :
    Calls P f #[] w fun e w' => e = .returned v ∧ Below w.heap.size w w' := by
  obtain ⟨r, k⟩ := callN_ok hP n _ _ _ _ _ h ⟨Nat.zero_le _, fun i o hi => (by cases hi)⟩
  obtain ⟨ρ', w', g, v', fn, first, cap, e, hvr, hinv⟩ := k (.func (.func f) #[] #[]) [] w (fun _ => none) (fun _ => none) w ⟨VR.func_iff.2 ⟨_, _, _, rfl, .func f, .nil, .nil⟩, .nil⟩ (fun _ _ => rfl)
    ⟨Below.refl _ _, fun i o hi => (by cases hi), fun _ _ _ _ _ _ hi => (by cases hi)⟩ (fun _ _ _ => rfl)
  cases e
  obtain rfl := hvr.eq hv
  unfold hasBody at hb
  split at hb
  · rename_i fn hf
    have hcb := call_body hP hf hb #[] (#[] ++ ([] : List Value).toArray) w
    cases hinv with
    | val h => rw [hcb] at h; cases h
    | round l f2 tmps as bd h hr => rw [hcb] at h; cases h
    | body f2 as h hbr =>
      rw [hcb] at h
      cases h
      intro cs
      obtain ⟨fr, s1, q1, q2, q3, q4, fn2, q5, q6⟩ := hbr .normal cs (.inl rfl)
      exact ⟨.returned v', w', fr, ⟨rfl, g.inv.below⟩, s1, q4, q2, q3, q1, fn2, by rw [q4]; exact q5, q6⟩
  · cases hb

theorem closed_true {P : Program} {pr : Prims} (hP : POk P pr) {n f : Nat} (hb : hasBody P f = true) (h : isTrue (callN P pr n (.func (.func f) #[] #[]) [] st0) = true) (w : World) :
    Calls P f #[] w fun e w' => e = .returned (.bool true) ∧ Below w.heap.size w w' := by
  unfold isTrue at h
  split at h
  · rename_i s' hs
    exact closed_run hP hb hs rfl w
  · cases h

/-- The same, with arguments that hold no address. -/
theorem closed_val {P : Program} {pr : Prims} (hP : POk P pr) {n f : Nat} {args : List Value} {v : Value} (hb : hasBody P f = true) (ha : noAddrL args = true) (h : Option.map Prod.fst (callN P pr n (.func (.func f) #[] #[]) args st0) = some v) (hv : noAddr v = true) (w : World) :
    Calls P f args.toArray w fun e w' => e = .returned v ∧ Below w.heap.size w w' := by
  rw [Option.map_eq_some_iff] at h
  obtain ⟨⟨v0, s'⟩, h, rfl⟩ := h
  obtain ⟨r, k⟩ := callN_ok hP n _ _ _ _ _ h ⟨Nat.zero_le _, fun i o hi => (by cases hi)⟩
  obtain ⟨ρ', w', g, v', fn, first, cap, e, hvr, hinv⟩ := k (.func (.func f) #[] #[]) args w (fun _ => none) (fun _ => none) w ⟨VR.func_iff.2 ⟨_, _, _, rfl, .func f, .nil, .nil⟩, LR.refl _ ha⟩ (fun _ _ => rfl)
    ⟨Below.refl _ _, fun i o hi => (by cases hi), fun _ _ _ _ _ _ hi => (by cases hi)⟩ (fun _ _ _ => rfl)
  cases e
  obtain rfl := hvr.eq hv
  unfold hasBody at hb
  split at hb
  · rename_i fn hf
    have hcb := call_body hP hf hb #[] (#[] ++ args.toArray) w
    have e1 : (#[] ++ args.toArray ++ #[] : Array Value) = args.toArray := by simp
    cases hinv with
    | val h => rw [hcb] at h; cases h
    | round l f2 tmps as bd h hr => rw [hcb] at h; cases h
    | body f2 as h hbr =>
      rw [hcb, e1] at h
      cases h
      intro cs
      obtain ⟨fr, s1, q1, q2, q3, q4, fn2, q5, q6⟩ := hbr .normal cs (.inl rfl)
      exact ⟨.returned v', w', fr, ⟨rfl, g.inv.below⟩, s1, q4, q2, q3, q1, fn2, by rw [q4]; exact q5, q6⟩
  · cases hb
end Go.Proofs.YtbnmjdmbdoehlaaGreatDoor.Ev
