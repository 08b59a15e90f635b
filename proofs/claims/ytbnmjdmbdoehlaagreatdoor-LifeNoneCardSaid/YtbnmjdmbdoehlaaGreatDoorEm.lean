/- Writes of several operations, one over the other, and the order that a region asks for. -/
import Derived.Test.YtbnmjdmbdoehlaaGreatDoorEl
namespace Go.Proofs.YtbnmjdmbdoehlaaGreatDoor.Ev
open Go Go.RowKit

/-- The writes u over g. -/
def apF {β : Type} (g : Nat → β) : List (Nat × β) → Nat → β
  | [] => g
  | (i, o) :: r => fun j => if j = i then o else apF g r j
theorem ap_eq (H : G) (u : Up) : ap H u = apF H u := by
  induction u with
  | nil => rfl
  | cons p u ih => obtain ⟨i, o⟩ := p; funext j; show (if j = i then o else ap H u j) = (if j = i then o else apF H u j); rw [ih]
def Hits {β : Type} (l : List (Nat × β)) (i : Nat) : Prop := ∃ p ∈ l, p.1 = i
section
variable {β : Type}
theorem apF_other {g : Nat → β} {l : List (Nat × β)} {i : Nat} (h : ¬ Hits l i) : apF g l i = g i := by
  induction l with
  | nil => rfl
  | cons p l ih =>
    obtain ⟨k, o⟩ := p
    have hk : i ≠ k := fun e => h ⟨(k, o), .head _, e.symm⟩
    show (if i = k then o else apF g l i) = g i
    rw [if_neg hk]
    exact ih fun ⟨p, hp, e⟩ => h ⟨p, .tail _ hp, e⟩
theorem apF_hit {g g' : Nat → β} {l : List (Nat × β)} {i : Nat} (h : Hits l i) : apF g l i = apF g' l i := by
  induction l with
  | nil => obtain ⟨p, hp, _⟩ := h; cases hp
  | cons p l ih =>
    obtain ⟨k, o⟩ := p
    show (if i = k then o else apF g l i) = (if i = k then o else apF g' l i)
    by_cases e : i = k
    · rw [if_pos e, if_pos e]
    · rw [if_neg e, if_neg e]
      refine ih ?_
      obtain ⟨p, hp, e2⟩ := h
      cases hp with
      | head => exact absurd e2.symm e
      | tail _ hp => exact ⟨p, hp, e2⟩
theorem apF_agree {g g' : Nat → β} {l : List (Nat × β)} {i : Nat} (h : g i = g' i) : apF g l i = apF g' l i := by
  by_cases e : Hits l i
  · exact apF_hit e
  · rw [apF_other e, apF_other e, h]
theorem apF_append (g : Nat → β) (u v : List (Nat × β)) : apF g (u ++ v) = apF (apF g v) u := by
  induction u with
  | nil => rfl
  | cons p u ih => obtain ⟨i, o⟩ := p; funext j; show (if j = i then o else apF g (u ++ v) j) = (if j = i then o else apF (apF g v) u j); rw [ih]

/-- The writes of those of the first n that are in S, the last first. -/
def acc (W : Nat → List (Nat × β)) (S : Nat → Bool) : Nat → List (Nat × β)
  | 0 => []
  | n + 1 => if S n = true then W n ++ acc W S n else acc W S n
theorem acc_agree {W : Nat → List (Nat × β)} {S S' : Nat → Bool} {g : Nat → β} {i : Nat} : ∀ n, (∀ k, k < n → S k ≠ S' k → ¬ Hits (W k) i) → apF g (acc W S n) i = apF g (acc W S' n) i := by
  intro n
  induction n with
  | zero => intro _; rfl
  | succ n ih =>
    intro h
    have ih := ih fun k hk => h k (by omega)
    have h := h n (Nat.lt_succ_self n)
    unfold acc
    cases e : S n <;> cases e' : S' n
    · simpa using ih
    · rw [if_neg (by simp), if_pos rfl, apF_append, apF_other (h (by rw [e, e']; simp))]; exact ih
    · rw [if_pos rfl, if_neg (by simp), apF_append, apF_other (h (by rw [e, e']; simp))]; exact ih
    · rw [if_pos rfl, if_pos rfl, apF_append, apF_append]; exact apF_agree ih
theorem acc_lt (W : Nat → List (Nat × β)) (S : Nat → Bool) (j : Nat) : ∀ n, j ≤ n → acc W (fun k => decide (k < j)) n = acc W (fun _ => true) j := by
  intro n
  induction n with
  | zero => intro h; have : j = 0 := by omega
            subst this; rfl
  | succ n ih =>
    intro h
    by_cases e : j = n + 1
    · subst e
      have : ∀ m, m ≤ n + 1 → acc W (fun k => decide (k < n + 1)) m = acc W (fun _ => true) m := by
        intro m
        induction m with
        | zero => intro _; rfl
        | succ m im => intro hm; unfold acc; rw [im (by omega), if_pos (by simp; omega), if_pos rfl]
      exact this _ (Nat.le_refl _)
    · rw [← ih (by omega)]
      show (if decide (n < j) = true then _ else _) = _
      rw [if_neg (by simp; omega)]
theorem acc_insert {W : Nat → List (Nat × β)} {S : Nat → Bool} {g : Nat → β} {i j : Nat} : ∀ n, j < n → (∀ k, j < k → k < n → S k = true → Hits (W j) i → ¬ Hits (W k) i) →
    apF (apF g (acc W S n)) (W j) i = apF g (acc W (fun k => k == j || S k) n) i := by
  intro n hj h
  by_cases e : Hits (W j) i
  · rw [apF_hit (g' := apF g (acc W S j)) e]
    induction n with
    | zero => omega
    | succ n ih =>
      by_cases hn : j = n
      · subst hn
        show _ = apF g (if (j == j || S j) = true then _ else _) i
        rw [if_pos (by simp), apF_append]
        exact apF_hit e
      · rw [ih (by omega) fun k h1 h2 => h k h1 (by omega)]
        show _ = apF g (if (n == j || S n) = true then _ else _) i
        by_cases hs : S n = true
        · rw [if_pos (by simp [hs]), apF_append, apF_other (h n (by omega) (Nat.lt_succ_self n) hs e)]
        · rw [if_neg (by have : ¬ n = j := fun e => hn e.symm
                         simp [hs, this])]
  · rw [apF_other e]
    refine acc_agree n fun k _ hk => ?_
    by_cases hkj : k = j
    · subst hkj; exact e
    · exact absurd (by simp [hkj]) hk
end

/- The table of who comes before whom. -/
open CheckFast in
theorem one_bit {look : Nat → Nat} {o : Oper} {k : Nat} (h : (one look o).testBit k = true) : ∃ e ∈ o.after, Region.binds .any e = true ∧ (e.on = k ∨ (look e.on).testBit k = true) := by
  have main : ∀ (l : List Edge) (s : Nat), ((l.foldl (fun s e => if Region.binds .any e then s ||| 2 ^ e.on ||| look e.on else s) s).testBit k = true) → s.testBit k = true ∨ ∃ e ∈ l, Region.binds .any e = true ∧ (e.on = k ∨ (look e.on).testBit k = true) := by
    intro l
    induction l with
    | nil => intro s h; exact .inl h
    | cons e l ih =>
      intro s h
      rw [List.foldl_cons] at h
      rcases ih _ h with h | ⟨e', h1, h2⟩
      · by_cases hb : Region.binds .any e = true
        · rw [if_pos hb, Nat.testBit_or, Nat.testBit_or, Nat.testBit_two_pow] at h
          rw [Bool.or_eq_true, Bool.or_eq_true] at h
          rcases h with (h | h) | h
          · exact .inl h
          · exact .inr ⟨e, .head _, hb, .inl (by simpa using h)⟩
          · exact .inr ⟨e, .head _, hb, .inr h⟩
        · rw [if_neg hb] at h; exact .inl h
      · exact .inr ⟨e', .tail _ h1, h2⟩
  unfold one at h
  rw [← Array.foldl_toList] at h
  rcases main _ _ h with h | ⟨e, h1, h2⟩
  · simp at h
  · exact ⟨e, by simpa using h1, h2⟩

open CheckFast in
theorem fold_bef : ∀ (l : List Oper) (A : Array Nat), let R := l.foldl (fun acc o => acc.push (one (fun i => acc.getD i 0) o)) A
    (∀ i, i < A.size → R.getD i 0 = A.getD i 0) ∧ A.size ≤ R.size ∧ ∀ j k, A.size ≤ j → (R.getD j 0).testBit k = true → ∃ o, l[j - A.size]? = some o ∧ ∃ e ∈ o.after, Region.binds .any e = true ∧ (e.on = k ∨ (R.getD e.on 0).testBit k = true) := by
  intro l
  induction l with
  | nil =>
    intro A
    refine ⟨fun _ _ => rfl, Nat.le_refl _, fun j k hj h => ?_⟩
    have e : (A.getD j 0) = 0 := by simp [Array.getElem?_eq_none hj]
    rw [List.foldl_nil, e] at h
    simp at h
  | cons o l ih =>
    intro A
    obtain ⟨h1, h2, h3⟩ := ih (A.push (one (fun i => A.getD i 0) o))
    rw [Array.size_push] at h1 h2 h3
    rw [List.foldl_cons]
    have hold : ∀ i, i < A.size → (l.foldl (fun acc o => acc.push (one (fun i => acc.getD i 0) o)) (A.push (one (fun i => A.getD i 0) o))).getD i 0 = A.getD i 0 := by
      intro i hi
      rw [h1 i (by omega)]
      simp [Array.getElem?_push, Nat.ne_of_lt hi]
    refine ⟨hold, by omega, fun j k hj h => ?_⟩
    by_cases e : j = A.size
    · subst e
      rw [h1 _ (by omega)] at h
      have e2 : (A.push (one (fun i => A.getD i 0) o)).getD A.size 0 = one (fun i => A.getD i 0) o := by simp
      rw [e2] at h
      obtain ⟨ed, m1, m2, m3⟩ := one_bit h
      refine ⟨o, by simp, ed, m1, m2, m3.imp id fun m3 => ?_⟩
      by_cases hs : ed.on < A.size
      · rw [hold _ hs]; exact m3
      · have : A.getD ed.on 0 = 0 := by simp [Array.getElem?_eq_none (Nat.le_of_not_lt hs)]
        rw [this] at m3; simp at m3
    · obtain ⟨o', m1, m2⟩ := h3 j k (by omega) h
      refine ⟨o', ?_, m2⟩
      have : j - A.size = (j - (A.size + 1)) + 1 := by omega
      rw [this, List.getElem?_cons_succ]; exact m1

theorem bef_edge {ops : Array Oper} {k j : Nat} (h : bef ops k j = true) : ∃ o, ops[j]? = some o ∧ ∃ e ∈ o.after, Region.binds .any e = true ∧ (e.on = k ∨ bef ops k e.on = true) := by
  unfold bef at h ⊢
  have e : CheckFast.beforeF ops = ops.toList.foldl (fun acc o => acc.push (CheckFast.one (fun i => acc.getD i 0) o)) #[] := by
    rw [CheckFast.beforeF_eq]
    unfold Region.before
    rw [← Array.foldl_toList]
    rfl
  rw [e] at h ⊢
  obtain ⟨o, m1, m2⟩ := (fold_bef ops.toList #[]).2.2 j k (Nat.zero_le _) h
  exact ⟨o, by simpa using m1, m2⟩
end Go.Proofs.YtbnmjdmbdoehlaaGreatDoor.Ev
