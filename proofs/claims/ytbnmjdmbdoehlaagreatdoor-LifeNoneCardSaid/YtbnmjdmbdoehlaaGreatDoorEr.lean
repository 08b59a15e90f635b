/- What stands round the code of a function: its results, its deferred calls, its first slots. -/
import Derived.Test.YtbnmjdmbdoehlaaGreatDoorEq
namespace Go.Proofs.YtbnmjdmbdoehlaaGreatDoor.Ev
open Go Go.RowKit

section
variable {P : Program} {w0 : World} {ρ : Ren} {H : G} {w : World}

theorem opLoad_var (hI : Inv P w0 ρ H w) {t : TypeId} {a a' : Value} (ha : VR ρ a a') {E : E} (h : opLoad P H t a = some E) : ∃ ad v', a' = .pointer (some ad) ∧ (loadVar t ad).run P w = .ok v' w ∧ VR ρ E.v v' := by
  unfold opLoad at h
  split at h
  · rename_i i off
    cases ha with | ptr _ _ k hk => ?_
    split at h
    · rename_i hag
      split at h
      · rename_i n hs
        split at h
        · rename_i l hl
          cases h
          obtain ⟨l', h1, h2, h3⟩ := loadN_cells hI hl hk
          refine ⟨_, .agg l'.toArray, rfl, ?_, VR.agg_iff.2 ⟨_, rfl, h1⟩⟩
          simp [loadVar, run_agg hag, run_size hs, loadCells_of h2 h3]
        · cases h
      · cases h
    · rename_i hag
      split at h
      · rename_i v hl
        cases h
        obtain ⟨l', h1, h2, h3⟩ := loadN_cells hI hl hk
        obtain ⟨v', m', rfl, hv, _⟩ := h1.inv_cons
        have h4 := h3 0 v' rfl
        simp only [Nat.add_zero] at h4
        refine ⟨_, v', rfl, ?_, hv⟩
        simp [loadVar, run_agg hag, h4]
      · cases h
    · cases h
  · cases h

def rv (tmps : Array Value) : ResultVar → Sem Value
  | .tmp t => pure (tmps.getD t undef)
  | .cell a t => do loadVar t (← asAddr (tmps.getD a undef))
theorem results_eq (fn : Func) (tmps : Array Value) : results fn tmps = fn.results.mapM (rv tmps) >>= fun vs => pure (if h : vs.size = 1 then vs[0] else .tuple vs) := by
  unfold results
  congr 1

theorem resV_run {g : G} {T : Tr Value} {n : Nat} {tmps : Array Value} (hI : Inv P w0 ρ H w) (hT : TR ρ T n tmps) : ∀ (rs : List ResultVar) (vs : List Value) (rd : List Nat), resV P T g rs = some (vs, rd) → (∀ i ∈ rd, H i = g i) →
    ∃ vs', (rs.mapM (rv tmps)).run P w = .ok vs' w ∧ LR ρ vs vs' := by
  intro rs
  induction rs with
  | nil =>
    intro vs rd h _
    cases h
    exact ⟨[], by simp, .nil⟩
  | cons r rs ih =>
    intro vs rd h hag
    cases r with
    | tmp i =>
      unfold resV at h
      split at h
      · rename_i vs1 rd1 h1
        cases h
        obtain ⟨vs', k1, k2⟩ := ih _ _ h1 hag
        exact ⟨tmps.getD i undef :: vs', by simp [List.mapM_cons, rv, k1], .cons (hT.2 i) k2⟩
      · cases h
    | cell a ty =>
      unfold resV at h
      split at h
      · rename_i v hv
        split at h
        · rename_i E hE
          split at h
          · rename_i vs1 rd1 h1
            cases h
            obtain ⟨vs', k1, k2⟩ := ih _ _ h1 fun i hi => hag i (List.mem_append_right _ hi)
            have hva := hT.2 a
            rw [hv] at hva
            obtain ⟨ad, v', e1, e2, e3⟩ := opLoad_var hI hva (opLoad_agree hE fun i hi => hag i (List.mem_append_left _ hi))
            refine ⟨v' :: vs', ?_, .cons e3 k2⟩
            have : (rv tmps (.cell a ty)).run P w = .ok v' w := by
              show (do loadVar ty (← asAddr (tmps.getD a undef))).run P w = _
              rw [e1]
              simp [asAddr, e2]
            simp [List.mapM_cons, this, k1]
          · cases h
        · cases h
      · cases h

theorem oneOf_run {fn : Func} {tmps : Array Value} {vs vs' : List Value} (h : (fn.results.toList.mapM (rv tmps)).run P w = .ok vs' w) (hl : LR ρ vs vs') : ∃ v', (results fn tmps).run P w = .ok v' w ∧ VR ρ (oneOf vs) v' := by
  rw [results_eq, Array.mapM_eq_mapM_toList]
  refine ⟨oneOf vs', ?_, ?_⟩
  · simp only [Sem.run_bind, Sem.run_map, bind_map_left, h, Result.andThen_ok]
    cases vs' with
    | nil => simp [oneOf]
    | cons a r =>
      cases r with
      | nil => simp [oneOf]
      | cons b r => simp [oneOf]
  · cases hl with
    | nil => exact VR.tuple_iff.2 ⟨_, rfl, .nil⟩
    | cons h1 t =>
      cases t with
      | nil => exact h1
      | cons h2 t => exact VR.tuple_iff.2 ⟨_, rfl, .cons h1 (.cons h2 t)⟩
end

theorem argsTr_get : ∀ (l : List Value) (i : Nat) (t : Tr Value), i + l.length ≤ lim → ∀ j, (argsTr i l t).get j = if i ≤ j ∧ j < i + l.length then l[j - i]? else t.get j := by
  intro l
  induction l with
  | nil => intro i t _ j; rw [if_neg (by simp)]; rfl
  | cons v l ih =>
    intro i t h j
    simp at h
    show (argsTr (i + 1) l _).get j = _
    have hb : i + 1 < 2 ^ 64 := Nat.lt_of_le_of_lt (show i + 1 ≤ 1099511627776 from Nat.le_trans (by omega) h) (by decide)
    rw [ih (i + 1) _ (by omega) j, Tr.get_set _ _ _ _ _ hb]
    by_cases e : j = i
    · subst e
      rw [if_neg (by omega), if_pos rfl, if_pos (by simp)]; simp
    · rw [if_neg e]
      by_cases c : i + 1 ≤ j ∧ j < i + 1 + l.length
      · rw [if_pos c, if_pos (by simp; omega)]
        obtain ⟨d, rfl⟩ : ∃ d, j = i + 1 + d := ⟨j - (i + 1), by omega⟩
        rw [show i + 1 + d - (i + 1) = d by omega, show i + 1 + d - i = d + 1 by omega]; rfl
      · rw [if_neg c, if_neg (by simp; omega)]

theorem args_TR {ρ : Ren} {l : List Value} {as : Array Value} (h : LR ρ l as.toList) (hl : l.length ≤ lim) (n : Nat) : TR ρ (argsTr 0 l .lf) (Nat.max n l.length) (as ++ Array.replicate (n - as.size) undef) := by
  have hlen : as.size = l.length := by simpa using h.length.symm
  refine ⟨by
    show _ = max n l.length
    simp [hlen]; omega, fun t => ?_⟩
  rw [argsTr_get l 0 .lf (by simpa using hl) t]
  by_cases c : t < l.length
  · rw [if_pos (by simp [c])]
    obtain ⟨b, hb, hv⟩ := h.get (List.getElem?_eq_getElem c)
    have hb' : as[t]? = some b := by simpa using hb
    have : (as ++ Array.replicate (n - as.size) undef).getD t undef = b := by
      rw [Array.getD_eq_getD_getElem?, Array.getElem?_append_left (by omega), hb']; rfl
    rw [this]
    simpa [List.getElem?_eq_getElem c] using hv
  · rw [if_neg (by simp; omega), Tr.get_lf]
    have : (as ++ Array.replicate (n - as.size) undef).getD t undef = undef := by
      rw [Array.getD_eq_getD_getElem?, Array.getElem?_append_right (by omega), Array.getElem?_replicate]
      split <;> rfl
    rw [this]; exact vr_undef

theorem foldTr_TR {ρ : Ren} {n : Nat} (hn : n ≤ lim) : ∀ (ps : List Tmp) (l l' : List Value) (T : Tr Value) (tmps : Array Value), LR ρ l l' → TR ρ T n tmps →
    TR ρ (foldTr n (ps.zip l) T) n ((ps.zip l').foldl (fun tmps p => tmps.setIfInBounds p.1 p.2) tmps) := by
  intro ps
  induction ps with
  | nil => intro l l' T tmps _ h; exact h
  | cons p ps ih =>
    intro l l' T tmps hl h
    cases hl with
    | nil => exact h
    | @cons v l v' l' hv hl =>
      refine ih _ _ _ _ hl ?_
      have := (FR.put (ρ := ρ) (fr := ⟨T, n, []⟩) (a := ⟨tmps, []⟩) ⟨h, hn, .nil⟩ (some p) hv).tmps
      unfold Fr.put at this
      dsimp only at this
      cases hb : Nat.blt p n with
      | true => rw [hb] at this; exact this
      | false => rw [hb] at this; exact this
end Go.Proofs.YtbnmjdmbdoehlaaGreatDoor.Ev
