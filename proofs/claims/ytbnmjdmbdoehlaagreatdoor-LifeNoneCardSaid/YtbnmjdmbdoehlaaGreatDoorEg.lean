/- What the evaluator's operations come to in the machine: maps, iterators, the builtins. -/
import Derived.Test.YtbnmjdmbdoehlaaGreatDoorEf
namespace Go.Proofs.YtbnmjdmbdoehlaaGreatDoor.Ev
open Go Go.RowKit

section
variable {P : Program} {w0 : World} {ρ : Ren} {H : G} {w : World}

theorem semPlain_bind {α β : Type} (x : Sem α) (f : α → Sem β) : semPlain P (x >>= f) = (semPlain P x).bind fun a => semPlain P (f a) := by
  show semPlain P (x.bind f) = _
  induction x with
  | pure a => rfl
  | program k ih => exact ih P
  | mark m k ih => exact ih
  | _ => rfl

theorem L2.filter {α β : Type} {R : α → β → Prop} {p : α → Bool} {q : β → Bool} {l : List α} {m : List β} (h : L2 R l m) (hpq : ∀ a b, R a b → q b = p a) : L2 R (l.filter p) (m.filter q) := by
  induction h with
  | nil => exact .nil
  | cons h _ ih =>
    rw [List.filter_cons, List.filter_cons, hpq _ _ h]
    split
    · exact .cons h ih
    · exact ih
theorem L2.find {α β : Type} {R : α → β → Prop} {p : α → Bool} {q : β → Bool} {l : List α} {m : List β} (h : L2 R l m) (hpq : ∀ a b, R a b → q b = p a) {a : α} (ha : l.find? p = some a) : ∃ b, m.find? q = some b ∧ R a b := by
  induction h with
  | nil => cases ha
  | @cons x y _ _ hr _ ih =>
    rw [List.find?_cons] at ha ⊢
    rw [hpq _ _ hr]
    cases hp : p x with
    | true => rw [hp] at ha; cases ha; exact ⟨y, rfl, hr⟩
    | false => rw [hp] at ha; exact ih ha
theorem L2.findIdx {α β : Type} {R : α → β → Prop} {p : α → Bool} {q : β → Bool} {l : List α} {m : List β} (h : L2 R l m) (hpq : ∀ a b, R a b → q b = p a) : m.findIdx? q = l.findIdx? p := by
  induction h with
  | nil => rfl
  | @cons x y _ _ hr _ ih =>
    rw [List.findIdx?_cons, List.findIdx?_cons, hpq _ _ hr, ih]
theorem L2.all {α β : Type} {R : α → β → Prop} {p : α → Bool} {q : β → Bool} {l : List α} {m : List β} (h : L2 R l m) (hpq : ∀ a b, R a b → q b = p a) : m.all q = l.all p := by
  induction h with
  | nil => rfl
  | cons hr _ ih => rw [List.all_cons, List.all_cons, hpq _ _ hr, ih]

/- Keys. -/
abbrev KR2 : List MapEntry → List MapEntry → Prop := L2 fun a b => b.key = a.key

theorem findNow_mask (d : TypeDesc) (k : Value) : ∀ {em e' : List MapEntry}, KR2 em e' → ∀ (n : Nat),
    (Instr.findNow d k em n = none → Instr.findNow d k e' n = none) ∧ (Instr.findNow d k em n = some none → Instr.findNow d k e' n = some none) ∧
    (∀ i v, Instr.findNow d k em n = some (some (i, v)) → ∃ e, e'[i - n]? = some e ∧ n ≤ i ∧ Instr.findNow d k e' n = some (some (i, e.val))) := by
  intro em e' h
  induction h with
  | nil => intro n; exact ⟨fun h => (by cases h), fun _ => rfl, fun i v h => by cases h⟩
  | @cons a b _ _ hk _ ih =>
    intro n
    simp only [Instr.findNow]
    rw [hk]
    cases Instr.sameNow d k a.key with
    | none => exact ⟨fun _ => rfl, fun h => (by cases h), fun i v h => by cases h⟩
    | some t =>
      cases t with
      | true => exact ⟨fun h => (by cases h), fun h => (by cases h), fun i v h => by cases h; exact ⟨b, by simp, Nat.le_refl _, rfl⟩⟩
      | false =>
        obtain ⟨i1, i2, i3⟩ := ih (n + 1)
        refine ⟨i1, i2, fun i v h => ?_⟩
        obtain ⟨e, h1, h2, h3⟩ := i3 i v h
        exact ⟨e, by rw [show i - n = (i - (n + 1)) + 1 by omega]; exact h1, by omega, h3⟩

theorem findAsking_mask (kt : TypeId) (k : Value) : ∀ {em e' : List MapEntry}, KR2 em e' → ∀ (n : Nat) (r : Option (Nat × Value)), semPlain P (Instr.findAsking kt k em n) = some r →
    (r = none → ∀ w, (Instr.findAsking kt k e' n).run P w = .ok none w) ∧ (∀ i v, r = some (i, v) → ∃ e, e'[i - n]? = some e ∧ n ≤ i ∧ ∀ w, (Instr.findAsking kt k e' n).run P w = .ok (some (i, e.val)) w) := by
  intro em e' h
  induction h with
  | nil =>
    intro n r h
    simp only [Instr.findAsking] at h
    cases h
    exact ⟨fun _ w => rfl, fun i v h => by cases h⟩
  | @cons a b _ _ hk _ ih =>
    intro n r h
    simp only [Instr.findAsking] at h ⊢
    rw [semPlain_bind] at h
    rw [hk]
    cases he : semPlain P (Op.equal kt k a.key) with
    | none => rw [he] at h; cases h
    | some t =>
      rw [he] at h
      have hrun := plain_run he
      cases t with
      | true =>
        simp only [Option.bind_some, if_true] at h
        cases h
        refine ⟨fun h => (by cases h), fun i v h => ?_⟩
        cases h
        exact ⟨b, by simp, Nat.le_refl _, fun w => by simp [hrun]⟩
      | false =>
        simp only [Option.bind_some, Bool.false_eq_true, if_false] at h
        obtain ⟨i1, i2⟩ := ih (n + 1) r h
        refine ⟨fun h0 w => by simp [hrun, i1 h0], fun i v h0 => ?_⟩
        obtain ⟨e, h1, h2, h3⟩ := i2 i v h0
        exact ⟨e, by rw [show i - n = (i - (n + 1)) + 1 by omega]; exact h1, by omega, fun w => by simp [hrun, h3]⟩

theorem findKey_mask (kt : TypeId) (k : Value) {em e' : List MapEntry} (h : KR2 em e') {r : Option (Nat × Value)} (hr : semPlain P (Instr.findKey kt k em) = some r) :
    (r = none → ∀ w, (Instr.findKey kt k e').run P w = .ok none w) ∧ (∀ i v, r = some (i, v) → ∃ e, e'[i]? = some e ∧ ∀ w, (Instr.findKey kt k e').run P w = .ok (some (i, e.val)) w) := by
  unfold Instr.findKey at hr ⊢
  rw [semPlain_bind] at hr
  cases hu : semPlain P (underlying kt) with
  | none => rw [hu] at hr; cases hr
  | some d =>
    rw [hu] at hr
    simp only [Option.bind_some] at hr
    have hrun := plain_run hu
    obtain ⟨i1, i2, i3⟩ := findNow_mask d k h 0
    cases hf : Instr.findNow d k em 0 with
    | none =>
      rw [hf] at hr
      obtain ⟨j1, j2⟩ := findAsking_mask kt k h 0 r hr
      have e1 := i1 hf
      exact ⟨fun h0 w => by simp [hrun, e1, j1 h0], fun i v h0 => by
        obtain ⟨e, q1, _, q3⟩ := j2 i v h0
        exact ⟨e, q1, fun w => by simp [hrun, e1, q3]⟩⟩
    | some x =>
      rw [hf] at hr
      cases hr
      cases r with
      | none => exact ⟨fun _ w => by simp [hrun, i2 hf], fun i v h0 => by cases h0⟩
      | some p =>
        refine ⟨fun h0 => (by cases h0), fun i v h0 => ?_⟩
        cases h0
        obtain ⟨e, q1, _, q3⟩ := i3 i v hf
        exact ⟨e, q1, fun w => by simp [hrun, q3]⟩

theorem keyAt_spec {kt : TypeId} {k k' : Value} (hk : VR ρ k k') {es : List MapEntry} {es' : Array MapEntry} (he : L2 (ER ρ) es es'.toList) {emp : Bool} {r : Option Nat} (h : keyAt P kt emp k es = some r) :
    k = k' ∧ noAddr k = true ∧ (∀ w, (Instr.checkKey emp 10000 kt k).run P w = .ok () w) ∧ (∀ (i : Nat) a b, es[i]? = some a → es'[i]? = some b → b.key = a.key) ∧ es'.isEmpty = es.isEmpty ∧
    (r = none → ∀ w, (Instr.findKey kt k es'.toList).run P w = .ok none w) ∧ (∀ i, r = some i → ∃ e, es'[i]? = some e ∧ ∀ w, (Instr.findKey kt k es'.toList).run P w = .ok (some (i, e.val)) w) := by
  unfold keyAt at h
  cases hn : noAddr k && es.all (fun e => noAddr e.key) with
  | false => rw [hn] at h; cases h
  | true =>
    rw [hn] at h
    dsimp only [cond_true] at h
    simp only [Bool.and_eq_true] at hn
    have hkeys : KR2 es es'.toList := by
      have key : ∀ {l : List MapEntry} {m : List MapEntry}, L2 (ER ρ) l m → l.all (fun e => noAddr e.key) = true → KR2 l m := by
        intro l m hl
        induction hl with
        | nil => intro _; exact .nil
        | cons h _ ih =>
          intro ha
          simp only [List.all_cons, Bool.and_eq_true] at ha
          exact .cons (h.1.eq ha.1) (ih ha.2)
      exact key he hn.2
    have hmask : KR2 (es.map fun e => { e with val := undef }) es'.toList := by
      have key : ∀ {l : List MapEntry} {m : List MapEntry}, KR2 l m → KR2 (l.map fun e => { e with val := undef }) m := by
        intro l m hl
        induction hl with
        | nil => exact .nil
        | cons h _ ih => exact .cons h ih
      exact key hkeys
    have hemp : es'.isEmpty = es.isEmpty := by
      have := he.length
      cases es with
      | nil =>
        have : es'.size = 0 := by simpa using this.symm
        simpa using this
      | cons a l =>
        have : es'.size ≠ 0 := by simp at this; omega
        simpa using this
    refine ⟨(hk.eq hn.1).symm, hn.1, ?_, fun i a b ha hb => ?_, hemp, ?_⟩
    · split at h
      · rename_i u hc; exact plain_run hc
      · cases h
    · obtain ⟨b', hb', hr⟩ := hkeys.get ha
      simp only [Array.getElem?_toList] at hb'
      rw [hb] at hb'; cases hb'; exact hr
    · split at h
      · split at h
        · rename_i i v hf
          cases h
          obtain ⟨_, j2⟩ := findKey_mask kt k hmask hf
          refine ⟨fun h => (by cases h), fun i' h => ?_⟩
          cases h
          obtain ⟨e, q1, q2⟩ := j2 i v rfl
          exact ⟨e, by simpa using q1, q2⟩
        · rename_i hf
          cases h
          obtain ⟨j1, _⟩ := findKey_mask kt k hmask hf
          exact ⟨fun _ => j1 rfl, fun i h => by cases h⟩
        · cases h
      · cases h

theorem run_getObj_map {r : Nat} {es : Array MapEntry} {c : Nat} (h : w.heap[r]? = some (.map es c)) : (getObj r).run P w = .ok (.map es c) w := by simp [getObj, Sem.run, h]
theorem run_setObj_map {r : Nat} {es : Array MapEntry} {c : Nat} (h : w.heap[r]? = some (.map es c)) (o : Obj) : (setObj r o).run P w = .ok () (w.putObj r o) := by simp [setObj, Sem.run, h, World.putObj]

theorem Inv.map (hI : Inv P w0 ρ H w) {i : Nat} {es : List MapEntry} {c : Nat} {k : Blk} (hi : H i = some (.map es c)) (hk : ρ i = some k) : ∃ es', w.heap[k.a]? = some (.map es' c) ∧ L2 (ER ρ) es es'.toList := by
  obtain ⟨k', o', hk', hlo, hb, ho⟩ := hI.live i _ hi
  obtain rfl : k' = k := Option.some.inj (hk'.symm.trans hk)
  cases ho with | map _ es' _ h => exact ⟨es', hb, h⟩

theorem entries_spec (hI : Inv P w0 ρ H w) {x x' : Value} (hx : VR ρ x x') {es : List MapEntry} {rd : List Nat} (h : entries H x = some (es, rd)) :
    ∃ es', L2 (ER ρ) es es'.toList ∧ ((x' = .map none ∧ es' = #[]) ∨ ∃ r c, x' = .map (some r) ∧ w.heap[r]? = some (.map es' c)) := by
  unfold entries at h
  split at h
  · cases hx; cases h; exact ⟨#[], .nil, .inl ⟨rfl, rfl⟩⟩
  · rename_i r
    cases hx with | map _ k hk => ?_
    split at h
    · rename_i es2 c hr
      cases h
      obtain ⟨es', h1, h2⟩ := hI.map hr hk
      exact ⟨es', h2, .inr ⟨k.a, c, rfl, h1⟩⟩
    · cases h
  · cases h

theorem lookup_run {t kt el : TypeId} (hu : P.underlying t = some (.map kt el)) {x' k : Value} {es' : Array MapEntry} (hx' : (x' = .map none ∧ es' = #[]) ∨ ∃ r c, x' = .map (some r) ∧ w.heap[r]? = some (.map es' c))
    (hck : (Instr.checkKey es'.isEmpty 10000 kt k).run P w = .ok () w) {i : Nat} {v : Value} (hf : (Instr.findKey kt k es'.toList).run P w = .ok (some (i, v)) w) (ok : Bool) :
    (Instr.lookup t x' k ok).run P w = .ok (bif ok then .tuple #[v, .bool true] else v) w := by
  rcases hx' with ⟨rfl, rfl⟩ | ⟨r, cl, rfl, hb⟩
  · simp only [Instr.lookup, Sem.run_bind, run_underlying hu, Result.andThen_ok, Sem.run_pure, hck, hf]
    cases ok <;> rfl
  · simp only [Instr.lookup, Sem.run_bind, run_underlying hu, Result.andThen_ok, Sem.run_pure, run_getObj_map hb, hck, hf]
    cases ok <;> rfl
theorem lookup_none {t kt el : TypeId} (hu : P.underlying t = some (.map kt el)) {x' k : Value} {es' : Array MapEntry} (hx' : (x' = .map none ∧ es' = #[]) ∨ ∃ r c, x' = .map (some r) ∧ w.heap[r]? = some (.map es' c))
    (hck : (Instr.checkKey es'.isEmpty 10000 kt k).run P w = .ok () w) (hf : (Instr.findKey kt k es'.toList).run P w = .ok none w) {z : Value} (hz : (zeroValue el).run P w = .ok z w) (ok : Bool) :
    (Instr.lookup t x' k ok).run P w = .ok (bif ok then .tuple #[z, .bool false] else z) w := by
  rcases hx' with ⟨rfl, rfl⟩ | ⟨r, cl, rfl, hb⟩
  · simp only [Instr.lookup, Sem.run_bind, run_underlying hu, Result.andThen_ok, Sem.run_pure, hck, hf, hz]
    cases ok <;> rfl
  · simp only [Instr.lookup, Sem.run_bind, run_underlying hu, Result.andThen_ok, Sem.run_pure, run_getObj_map hb, hck, hf, hz]
    cases ok <;> rfl

theorem opLookup_does (hI : Inv P w0 ρ H w) {t : TypeId} {x x' k k' : Value} (hx : VR ρ x x') (hk : VR ρ k k') {ok : Bool} {E : E} (h : opLookup P H t x k ok = some E) (c : Nat) : SemDoes P w0 ρ H w (Instr.lookup t x' k' ok) c E := by
  unfold opLookup at h
  split at h
  · rename_i kt el hu
    split at h
    · rename_i es rd hes
      obtain ⟨es', hl, hx'⟩ := entries_spec hI hx hes
      split at h
      · rename_i i hka
        obtain ⟨rfl, hn, q1, q2, qe, _, q5⟩ := keyAt_spec hk hl hka
        rw [← qe] at q1
        obtain ⟨e, he, hf⟩ := q5 i rfl
        split at h
        · rename_i en hen
          cases h
          obtain ⟨b, hb, hr⟩ := hl.get hen
          simp only [Array.getElem?_toList] at hb
          rw [he] at hb; cases hb
          cases ok with
          | true => exact ⟨ρ, .tuple #[e.val, .bool true], w, lookup_run hu hx' (q1 w) (hf w) _, hI.same c, vr_pair hr.2.1 (.bool true)⟩
          | false => exact ⟨ρ, e.val, w, lookup_run hu hx' (q1 w) (hf w) _, hI.same c, hr.2.1⟩
        · cases h
      · rename_i hka
        obtain ⟨rfl, hn, q1, q2, qe, q4, _⟩ := keyAt_spec hk hl hka
        rw [← qe] at q1
        have hf := q4 rfl
        split at h
        · rename_i z hz
          obtain ⟨hr, hnz⟩ := zero_run hz
          cases h
          cases ok with
          | true => exact ⟨ρ, .tuple #[z, .bool false], w, lookup_none hu hx' (q1 w) (hf w) (hr w) _, hI.same c, vr_pair (VR.refl z hnz) (.bool false)⟩
          | false => exact ⟨ρ, z, w, lookup_none hu hx' (q1 w) (hf w) (hr w) _, hI.same c, VR.refl z hnz⟩
        · cases h
      · cases h
    · cases h
  · cases h

theorem arr_findIdx (es : Array MapEntry) (p : MapEntry → Bool) : es.findIdx? p = es.toList.findIdx? p := by cases es; simp
theorem toList_modify' (es : Array MapEntry) (i : Nat) (f : MapEntry → MapEntry) : (es.modify i f).toList = es.toList.modify i f := by simp

theorem opMapUpdate_does (hI : Inv P w0 ρ H w) {t : TypeId} {x x' k k' v v' : Value} (hx : VR ρ x x') (hk : VR ρ k k') (hv : VR ρ v v') {E : E} (h : opMapUpdate P H t x k v = some E) (c : Nat) : UnitDoes P w0 ρ H w (Instr.mapUpdate t x' k' v') c E := by
  unfold opMapUpdate at h
  split at h
  · rename_i kt el r hu
    cases hx with | map _ kb hkb => ?_
    split at h
    · rename_i es clock hr
      obtain ⟨es', hb, hl⟩ := hI.map hr hkb
      split at h
      · rename_i i hka
        obtain ⟨rfl, hn, q1, q2, _, _, q5⟩ := keyAt_spec hk hl hka
        obtain ⟨e, he, hf⟩ := q5 i rfl
        split at h
        · rename_i en hen
          cases hsb : Instr.sameBits 10000 en.key k with
          | false => rw [hsb] at h; cases h
          | true =>
            rw [hsb] at h
            cases h
            have hke := q2 i en e hen he
            refine ⟨rfl, ρ, _, ?_, ⟨Ren.le_refl _, fun _ _ => rfl, hI.put hr hkb (.map _ (es'.modify i fun en => { en with key := k, val := v' }) clock ?_)⟩⟩
            · have hks : (Instr.keyThatStays (((es'[i]?).map (·.key)).getD k) k).run P w = .ok k w := by
                rw [he]; simp [Instr.keyThatStays, hke, hsb]
              simp only [Instr.mapUpdate, Sem.run_bind, run_underlying hu, Result.andThen_ok, run_getObj_map hb, q1, hf, hks, run_setObj_map hb]
            · rw [toList_modify']
              exact hl.modify i fun a b hab => ⟨VR.refl k hn, hv, hab.2.2⟩
        · cases h
      · rename_i hka
        obtain ⟨rfl, hn, q1, q2, _, q4, _⟩ := keyAt_spec hk hl hka
        have hf := q4 rfl
        cases h
        refine ⟨rfl, ρ, _, ?_, ⟨Ren.le_refl _, fun _ _ => rfl, hI.put hr hkb (.map _ (es'.push { key := k, val := v', born := clock }) (clock + 1) ?_)⟩⟩
        · simp only [Instr.mapUpdate, Sem.run_bind, run_underlying hu, Result.andThen_ok, run_getObj_map hb, q1, hf, run_setObj_map hb]
        · rw [Array.toList_push]
          exact hl.append (.cons ⟨VR.refl k hn, hv, rfl⟩ .nil)
      · cases h
    · cases h
  · cases h

theorem opMapEntry_does (hI : Inv P w0 ρ H w) {t : TypeId} {x x' k k' : Value} (hx : VR ρ x x') (hk : VR ρ k k') {E : E} (h : opMapEntry P H t x k = some E) (c : Nat) : SemDoes P w0 ρ H w (Instr.mapEntry t x' k') c E := by
  unfold opMapEntry at h
  split at h
  · rename_i kt el r hu
    cases hx with | map _ kb hkb => ?_
    split at h
    · rename_i es clock hr
      obtain ⟨es', hb, hl⟩ := hI.map hr hkb
      split at h
      · rename_i i hka
        obtain ⟨rfl, hn, q1, q2, _, _, q5⟩ := keyAt_spec hk hl hka
        obtain ⟨e, he, hf⟩ := q5 i rfl
        split at h
        · rename_i en hen
          cases hsb : Instr.sameBits 10000 en.key k with
          | false => rw [hsb] at h; cases h
          | true =>
            rw [hsb] at h
            cases h
            have hke := q2 i en e hen he
            obtain ⟨b, hb2, hr2⟩ := hl.get hen
            simp only [Array.getElem?_toList] at hb2
            rw [he] at hb2; cases hb2
            refine ⟨ρ, .tuple #[e.val, goInt en.born], _, ?_, ⟨Ren.le_refl _, fun _ _ => rfl, hI.put hr hkb (.map _ (es'.modify i fun en => { en with key := k }) clock ?_)⟩, vr_pair hr2.2.1 (.int _ _)⟩
            · have hks : (Instr.keyThatStays (((es'[i]?).map (·.key)).getD k) k).run P w = .ok k w := by
                rw [he]; simp [Instr.keyThatStays, hke, hsb]
              simp only [Instr.mapEntry, Sem.run_bind, run_underlying hu, Result.andThen_ok, run_getObj_map hb, q1, hf, hks, run_setObj_map hb]
              rw [he]
              simp [hr2.2.2]
            · rw [toList_modify']
              exact hl.modify i fun a b hab => ⟨VR.refl k hn, hab.2.1, hab.2.2⟩
        · cases h
      · rename_i hka
        obtain ⟨rfl, hn, q1, q2, _, q4, _⟩ := keyAt_spec hk hl hka
        have hf := q4 rfl
        split at h
        · rename_i z hz
          obtain ⟨hrz, hnz⟩ := zero_run hz
          cases h
          refine ⟨ρ, .tuple #[z, goInt clock], _, ?_, ⟨Ren.le_refl _, fun _ _ => rfl, hI.put hr hkb (.map _ (es'.push { key := k, val := z, born := clock }) (clock + 1) ?_)⟩, vr_pair (VR.refl z hnz) (.int _ _)⟩
          · simp only [Instr.mapEntry, Sem.run_bind, run_underlying hu, Result.andThen_ok, run_getObj_map hb, q1, hf, hrz, run_setObj_map hb]
            rfl
          · rw [Array.toList_push]
            exact hl.append (.cons ⟨VR.refl k hn, VR.refl z hnz, rfl⟩ .nil)
        · cases h
      · cases h
    · cases h
  · cases h

theorem opEntryStore_does (hI : Inv P w0 ρ H w) {t : TypeId} {x x' s s' v v' : Value} (hx : VR ρ x x') (hs : VR ρ s s') (hv : VR ρ v v') {E : E} (h : opEntryStore H x s v = some E) (c : Nat) : UnitDoes P w0 ρ H w (Instr.entryStore t x' s' v') c E := by
  unfold opEntryStore at h
  split at h
  · rename_i r kd born
    cases hx with | map _ kb hkb => ?_
    cases hs
    split at h
    · rename_i es clock hr
      obtain ⟨es', hb, hl⟩ := hI.map hr hkb
      split at h
      · rename_i i hfi
        cases h
        have hf : es'.findIdx? (fun e => (e.born : Int) == born) = some i := by
          have := hl.findIdx (p := fun en => (en.born : Int) == born) (q := fun en => (en.born : Int) == born) (fun a b hab => by rw [hab.2.2])
          rw [hfi] at this
          rw [arr_findIdx]; exact this
        refine ⟨rfl, ρ, _, ?_, ⟨Ren.le_refl _, fun _ _ => rfl, hI.put hr hkb (.map _ (es'.modify i fun en => { en with val := v' }) clock ?_)⟩⟩
        · simp [Instr.entryStore, run_getObj_map hb, asInt, asIntOf, hf, run_setObj_map hb]
        · rw [toList_modify']
          exact hl.modify i fun a b hab => ⟨hab.1, hv, hab.2.2⟩
      · cases h
    · cases h
  · cases h

/- Iterators. -/
theorem Inv.get (hI : Inv P w0 ρ H w) {i : Nat} {o : AO} {k : Blk} (hi : H i = some o) (hk : ρ i = some k) : ∃ o', w.heap[k.a]? = some o' ∧ OR P ρ k o o' := by
  obtain ⟨k', o', hk', hlo, hb, ho⟩ := hI.live i _ hi
  obtain rfl : k' = k := Option.some.inj (hk'.symm.trans hk)
  exact ⟨o', hb, ho⟩
/-- A block that holds no cells. -/
def NoCells (o : Obj) : Prop := ∀ c e fr, o ≠ .cells c e fr
theorem run_getObj {r : Nat} {o : Obj} (h : w.heap[r]? = some o) (hn : NoCells o) : (getObj r).run P w = .ok o w := by
  cases o with
  | cells c e fr => exact absurd rfl (hn c e fr)
  | _ => simp [getObj, Sem.run, h]
theorem run_setObj {r : Nat} {o : Obj} (h : w.heap[r]? = some o) (hn : NoCells o) (o2 : Obj) : (setObj r o2).run P w = .ok () (w.putObj r o2) := by
  cases o with
  | cells c e fr => exact absurd rfl (hn c e fr)
  | _ => simp [setObj, Sem.run, h, World.putObj]

theorem newObj_does (hI : Inv P w0 ρ H w) {c : Nat} (hc : ρ c = none) {o : AO} {o' : Obj} (ho : OR P (ρ.put c ⟨w.heap.size, 0, 0, 0⟩) ⟨w.heap.size, 0, 0, 0⟩ o o') :
    Goes P w0 ρ c (c + 1) (ρ.put c ⟨w.heap.size, 0, 0, 0⟩) (ap H [(c, some o)]) (w.alloc o') ∧ VR (ρ.put c ⟨w.heap.size, 0, 0, 0⟩) (ptr c 0) (.pointer (some ⟨w.heap.size, 0, none⟩)) :=
  ⟨hI.new hc rfl ho, VR.ptr c 0 _ (Ren.put_same _ _ _)⟩

theorem opRange_does (hI : Inv P w0 ρ H w) {t : TypeId} {x x' : Value} (hx : VR ρ x x') {c : Nat} (hc : ρ c = none) {E : E} (h : opRange P H c t x = some E) : SemDoes P w0 ρ H w (Instr.range t x') c E := by
  unfold opRange at h
  split at h
  · rename_i b hu
    cases hx; cases h
    obtain ⟨h1, h2⟩ := newObj_does hI hc (o := .striter b 0) (.striter b 0 rfl)
    exact ⟨_, _, _, by simp [Instr.range, run_underlying hu], h1, h2⟩
  · rename_i a e hu
    cases hx; cases h
    obtain ⟨h1, h2⟩ := newObj_does hI hc (o := .mapiter none 0 [] 0) (.mapiterNil 0 [] 0 rfl)
    exact ⟨_, _, _, by simp [Instr.range, run_underlying hu], h1, h2⟩
  · rename_i a e m hu
    cases hx with | map _ k hk => ?_
    split at h
    · rename_i es clock hm
      cases h
      obtain ⟨es', hb, hl⟩ := hI.map hm hk
      obtain ⟨h1, h2⟩ := newObj_does hI hc (o := .mapiter (some m) clock [] clock) (.mapiter m k clock [] clock rfl (Ren.le_put hc _ _ hk))
      exact ⟨_, _, _, by simp [Instr.range, run_underlying hu, run_getObj_map hb], h1, h2⟩
    · cases h
  · cases h

theorem vr_triple {a a' b b' d d' : Value} (h : VR ρ a a') (k : VR ρ b b') (l : VR ρ d d') : VR ρ (.tuple #[a, b, d]) (.tuple #[a', b', d']) := VR.tuple_iff.2 ⟨_, rfl, .cons h (.cons k (.cons l .nil))⟩
theorem vr_one {a a' : Value} (h : VR ρ a a') : VR ρ (.tuple #[a]) (.tuple #[a']) := VR.tuple_iff.2 ⟨_, rfl, .cons h .nil⟩

theorem NoCells.str (s : ByteArray) (p : Nat) : NoCells (.stringIter s p) := fun _ _ _ h => by cases h
theorem NoCells.iter (m : Option Nat) (a : Nat) (s : Array Nat) (l : Nat) : NoCells (.mapIter m a s l) := fun _ _ _ h => by cases h
theorem NoCells.map (es : Array MapEntry) (c : Nat) : NoCells (.map es c) := fun _ _ _ h => by cases h

theorem opNext_does (hI : Inv P w0 ρ H w) {x x' : Value} (hx : VR ρ x x') {b : Bool} (ty : TypeId) {E : E} (h : opNext H x b = some E) (c : Nat) : SemDoes P w0 ρ H w (Instr.next x' b ty) c E := by
  unfold opNext at h
  split at h
  · rename_i r
    cases hx with | ptr _ _ k hk => ?_
    split at h
    · rename_i s pos hr
      obtain ⟨o', hb, ho⟩ := hI.get hr hk
      cases ho with | striter _ _ hbase => ?_
      rw [hbase]
      split at h
      · rename_i hlt
        cases h
        refine ⟨ρ, .tuple #[.bool true, goInt pos, .int .i32 (Utf8.decode s pos).1], _, ?_, ⟨Ren.le_refl _, fun _ _ => rfl, hI.put hr hk (.striter s (pos + (Utf8.decode s pos).2) hbase)⟩, vr_triple (.bool _) (.int _ _) (.int _ _)⟩
        simp [Instr.next, run_getObj hb (NoCells.str _ _), hlt, run_setObj hb (NoCells.str _ _)]
      · rename_i hlt
        cases h
        refine ⟨ρ, .tuple #[.bool false], w, ?_, hI.same c, vr_one (.bool _)⟩
        simp [Instr.next, run_getObj hb (NoCells.str _ _), hlt]
    · rename_i a s l hr
      obtain ⟨o', hb, ho⟩ := hI.get hr hk
      cases ho with | mapiterNil _ _ _ hbase => ?_
      rw [hbase]
      cases h
      refine ⟨ρ, .tuple #[.bool false], w, ?_, hI.same c, vr_one (.bool _)⟩
      simp [Instr.next, run_getObj hb (NoCells.iter _ _ _ _)]
    · rename_i m since seen last hr
      obtain ⟨o', hb, ho⟩ := hI.get hr hk
      cases ho with | mapiter _ km _ _ _ hbase hkm => ?_
      rw [hbase]
      split at h
      · rename_i es clock hm
        obtain ⟨es', hbm, hl⟩ := hI.map hm hkm
        cases hgone : (!seen.isEmpty && !es.isEmpty && es.all (fun en => Nat.ble last en.born)) with
        | true => rw [hgone] at h; cases h
        | false =>
          rw [hgone] at h
          dsimp only [cond_false] at h
          have hgone' : (!seen.toArray.isEmpty && !es'.isEmpty && es'.all (fun e => decide (e.born ≥ last))) = false := by
            have e1 : seen.toArray.isEmpty = seen.isEmpty := by simp
            have e2 : es'.isEmpty = es.isEmpty := by
              have := hl.length
              cases es with
              | nil =>
                have : es'.size = 0 := by simpa using this.symm
                simpa using this
              | cons a l =>
                have : es'.size ≠ 0 := by simp at this; omega
                simpa using this
            have e3 : es'.all (fun e => decide (e.born ≥ last)) = es.all (fun en => Nat.ble last en.born) := by
              rw [← Array.all_toList]
              refine hl.all fun a b hab => ?_
              rw [hab.2.2]
              by_cases hle : last ≤ a.born
              · rw [Nat.ble_eq_true_of_le hle]; simpa using hle
              · rw [ble_no hle]; simpa using hle
            rw [e1, e2, e3]; exact hgone
          have hfil : L2 (ER ρ) (es.filter (fun en => !seen.contains en.born)) (es'.filter (fun e => !seen.toArray.contains e.born)).toList := by
            rw [Array.toList_filter]
            exact hl.filter fun a b hab => by rw [hab.2.2]; simp
          split at h
          · rename_i hnil
            cases h
            rw [hnil] at hfil
            have hz : es'.filter (fun e => !seen.toArray.contains e.born) = #[] := by
              have := hfil.inv_nil
              apply Array.toList_inj.1
              rw [this]
            refine ⟨ρ, .tuple #[.bool false], w, ?_, hI.same c, vr_one (.bool _)⟩
            simp only [Instr.next, Sem.run_bind, run_getObj hb (NoCells.iter _ _ _ _), Result.andThen_ok, run_getObj hbm (NoCells.map _ _), hgone', Bool.false_eq_true, if_false, hz]
            simp [Question.forced]
          · rename_i en hone
            cases hold : Nat.blt en.born since with
            | false => rw [hold] at h; cases h
            | true =>
              rw [hold] at h
              cases h
              have hlt := blt_lt hold
              rw [hone] at hfil
              obtain ⟨en', m', hm', her, hnil⟩ := hfil.inv_cons
              rw [hnil.inv_nil] at hm'
              have hz : es'.filter (fun e => !seen.toArray.contains e.born) = #[en'] := by
                apply Array.toList_inj.1
                rw [hm']
              have hb1 : decide (en'.born < since) = true := by rw [her.2.2]; simpa using hlt
              have hb2 : decide (en'.born ≥ since) = false := by rw [her.2.2]; simp; omega
              refine ⟨ρ, .tuple #[.bool true, en'.key, en'.val], _, ?_, ⟨Ren.le_refl _, fun _ _ => rfl, hI.put hr hk (.mapiter m km since (seen ++ [en.born]) clock hbase hkm)⟩, vr_triple (.bool _) her.1 her.2.1⟩
              have hf1 : (#[en'] : Array MapEntry).filter (fun e => decide (e.born < since)) = #[en'] := by simp [hb1]
              have hf2 : (#[en'] : Array MapEntry).filter (fun e => decide (e.born ≥ since)) = #[] := by simp [hb2]
              have hpush : (seen ++ [en.born]).toArray = seen.toArray.push en'.born := by rw [her.2.2]; simp
              rw [hpush]
              simp only [Instr.next, Sem.run_bind, run_getObj hb (NoCells.iter _ _ _ _), Result.andThen_ok, run_getObj hbm (NoCells.map _ _), hgone', Bool.false_eq_true, if_false, hz, hf1, hf2]
              have hch : (choose (.mapNext ((if (#[en'] : Array MapEntry).isEmpty = true then (#[none] : Array (Option MapEntry)) else #[]) ++ ((#[en'] : Array MapEntry) ++ #[]).map some).size)).run P w = .ok 0 w := by
                simp [Question.forced]
              simp only [hch, Result.andThen_ok]
              simp [run_setObj hb (NoCells.iter _ _ _ _)]
          · cases h
      · cases h
    · cases h
  · cases h

theorem opEntry_does (hI : Inv P w0 ρ H w) {x x' : Value} (hx : VR ρ x x') {E : E} (h : opEntry H x = some E) (c : Nat) : SemDoes P w0 ρ H w (Instr.entry x') c E := by
  unfold opEntry at h
  split at h
  · rename_i r
    cases hx with | ptr _ _ k hk => ?_
    split at h
    · rename_i m since seen stepped hr
      obtain ⟨o', hb, ho⟩ := hI.get hr hk
      cases ho with | mapiter _ km _ _ _ hbase hkm => ?_
      rw [hbase]
      split at h
      · rename_i stamp es clock hlast hm
        obtain ⟨es', hbm, hl⟩ := hI.map hm hkm
        cases hcs : Nat.beq clock stepped with
        | false => rw [hcs] at h; cases h
        | true =>
          rw [hcs] at h
          dsimp only [cond_true] at h
          obtain rfl := beq_eq hcs
          split at h
          · rename_i en hfind
            cases h
            obtain ⟨en', hf', her⟩ := hl.find (q := fun e => e.born == stamp) (fun a b hab => by rw [hab.2.2]) hfind
            have hf2 : es'.find? (fun e => e.born == stamp) = some en' := by
              rw [← hf']; cases es'; simp
            have hbk : seen.toArray.back? = some stamp := by simpa using hlast
            refine ⟨ρ, .tuple #[en'.key, en'.val], w, ?_, hI.same c, vr_pair her.1 her.2.1⟩
            simp [Instr.entry, run_getObj hb (NoCells.iter _ _ _ _), hbk, run_getObj hbm (NoCells.map _ _), hf2]
          · cases h
      · cases h
    · cases h
  · cases h

/- Builtins. -/
theorem arr_len {es : List MapEntry} {es' : Array MapEntry} (h : L2 (ER ρ) es es'.toList) : es'.size = es.length := by simpa using h.length.symm

theorem opLen_does (hI : Inv P w0 ρ H w) {ats : Array TypeId} {ty : TypeId} {x x' : Value} (hx : VR ρ x x') {E : E} (h : opLen P H ats x = some E) (c : Nat) : SemDoes P w0 ρ H w (Builtin.len_ ats ty #[x']) c E := by
  unfold opLen at h
  split at h
  · rename_i t ht
    split at h
    · rename_i el a n cp hu
      cases hx with
      | sliceNil => exact pureE_does hI h (.int _ _) (by simp [Builtin.len_, goInt, ht, run_underlying hu]) c
      | slice => exact pureE_does hI h (.int _ _) (by simp [Builtin.len_, goInt, ht, run_underlying hu]) c
    · rename_i kt el hu
      cases hx
      exact pureE_does hI h (.int _ _) (by simp [Builtin.len_, goInt, ht, run_underlying hu]) c
    · rename_i kt el r hu
      cases hx with | map _ k hk => ?_
      split at h
      · rename_i es cl hm
        cases h
        obtain ⟨es', hb, hl⟩ := hI.map hm hk
        exact ⟨ρ, goInt es.length, w, by simp [Builtin.len_, goInt, ht, run_underlying hu, run_getObj_map hb, arr_len hl], hI.same c, .int _ _⟩
      · cases h
    · rename_i n el hu
      exact pureE_does hI h (.int _ _) (by cases x' <;> simp [Builtin.len_, goInt, ht, run_underlying hu]) c
    · rename_i b hu
      cases hx
      exact pureE_does hI h (.int _ _) (by simp [Builtin.len_, goInt, ht, run_underlying hu]) c
    · cases h
  · cases h

theorem opCap_does (hI : Inv P w0 ρ H w) {ats : Array TypeId} {ty : TypeId} {x x' : Value} (hx : VR ρ x x') {E : E} (h : opCap P ats x = some E) (c : Nat) : SemDoes P w0 ρ H w (Builtin.cap_ ats ty #[x']) c E := by
  unfold opCap at h
  split at h
  · rename_i t ht
    split at h
    · rename_i el a n cp hu
      cases hb : Nat.blt cp big with
      | false => rw [hb] at h; cases h
      | true =>
        rw [hb] at h
        have hlt := blt_lt hb
        cases hx with
        | sliceNil => exact pureE_does hI h (.int _ _) (by simp [Builtin.cap_, goInt, ht, run_underlying hu]) c
        | slice _ _ _ _ o' cap' k hk hl ho hc hbb =>
          rw [hc.1 hlt]
          exact pureE_does hI h (.int _ _) (by simp [Builtin.cap_, goInt, ht, run_underlying hu]) c
    · cases h
  · cases h

theorem vr_nil : VR ρ (.tuple #[]) (.tuple #[]) := VR.tuple_iff.2 ⟨_, rfl, .nil⟩
theorem opClear_does (hI : Inv P w0 ρ H w) {ats : Array TypeId} {ty : TypeId} {x x' : Value} (hx : VR ρ x x') {E : E} (h : opClear P H ats x = some E) (c : Nat) : SemDoes P w0 ρ H w (Builtin.clear_ ats ty #[x']) c E := by
  unfold opClear at h
  split at h
  · rename_i t ht
    split at h
    · rename_i el n cp hu
      cases hx
      exact pureE_does hI h (vr_nil) (by simp [Builtin.clear_, ht, run_underlying hu]) c
    · rename_i el a cp hu
      cases hx with
      | sliceNil => exact pureE_does hI h (vr_nil) (by simp [Builtin.clear_, ht, run_underlying hu]) c
      | slice => exact pureE_does hI h (vr_nil) (by simp [Builtin.clear_, ht, run_underlying hu]) c
    · rename_i el i off n cp hn hu
      cases hx with | slice _ _ _ _ o' cap' k hk hl ho hc hbb => ?_
      split at h
      · rename_i z hz
        obtain ⟨hr, hnz⟩ := zero_run hz
        cases hoc : (Builtin.zeroCells z.cells n).toList.all oneCell with
        | false => rw [hoc] at h; cases h
        | true =>
          rw [hoc] at h
          dsimp only [cond_true] at h
          have hn0 : n ≠ 0 := fun e => hn (by rw [e])
          have hlr : LR ρ (Builtin.zeroCells z.cells n).toList (Builtin.zeroCells z.cells n).toList := by
            have hzc := VR.cells (VR.refl (ρ := ρ) z hnz)
            refine L2.refl fun v hv => ?_
            simp only [Builtin.zeroCells, Array.toList_map, List.mem_map] at hv
            obtain ⟨j, _, rfl⟩ := hv
            by_cases hlt : j % z.cells.size < z.cells.size
            · rw [getElem!_pos z.cells _ hlt]
              obtain ⟨y, hy, hyr⟩ := hzc.get (j := j % z.cells.size) (a := z.cells[j % z.cells.size]) (by simp [hlt])
              have : y = z.cells[j % z.cells.size] := by simpa [hlt] using hy.symm
              rw [← this] at hyr ⊢; exact hyr
            · rw [getElem!_neg z.cells _ hlt]
              exact VR.refl _ rfl
          obtain ⟨w', hrun, hg, hv⟩ := storeE_does hI h hlr (all_oneCell hoc) hk (o' := o') (fun _ => by
            rcases ho with ho | ho
            · exact ho
            · omega) c
          refine ⟨ρ, .tuple #[], w', ?_, hg, by rw [hv]; exact vr_nil⟩
          cases n with
          | zero => exact absurd rfl hn0
          | succ n => simp [Builtin.clear_, ht, run_underlying hu, hr, hrun]
      · cases h
    · cases h
  · cases h

theorem copySrc_spec (hI : Inv P w0 ρ H w) {size dl m : Nat} {x x' : Value} (hx : VR ρ x x') {cells : List Value} {rd : List Nat} (h : copySrc H size dl x = some (m, cells, rd)) :
    ∃ n0, (Builtin.lenOf x').run P w = .ok n0 w ∧ Nat.min n0 dl = m ∧ m ≤ dl ∧ ∃ cells', LR ρ cells cells' ∧ (Builtin.firstCells size m x').run P w = .ok cells'.toArray w := by
  unfold copySrc at h
  split at h
  · rename_i n cp
    cases hx
    cases hb : Nat.beq (Nat.min n dl) 0 with
    | false => rw [hb] at h; cases h
    | true =>
      rw [hb] at h
      cases h
      exact ⟨n, rfl, beq_eq hb, Nat.zero_le _, [], .nil, rfl⟩
  · rename_i i off n cp
    cases hx with | slice _ _ _ _ o' cap' k hk hl ho hc hb => ?_
    split at h
    · rename_i l hld
      cases h
      obtain ⟨l', h1, h2⟩ := loadSlice hI hld hk (Nat.le_trans (Nat.min_le_left _ _) hl) ho
      exact ⟨n, rfl, rfl, Nat.min_le_right _ _, l', h1, h2⟩
    · cases h
  · rename_i b
    cases hx; cases h
    refine ⟨b.size, rfl, rfl, Nat.min_le_right _ _, _, lr_bytes _, ?_⟩
    show (Pure.pure _ : Sem (Array Value)).run P w = _
    rw [Sem.run_pure]
    congr 1
    apply Array.toList_inj.1
    simp [ByteArray.data_extract, List.extract_eq_take_drop]
  · cases h

theorem opCopy_does (hI : Inv P w0 ρ H w) {ats : Array TypeId} {ty : TypeId} {d d' x x' : Value} (hd : VR ρ d d') (hx : VR ρ x x') {E : E} (h : opCopy P H ats d x = some E) (c : Nat) : SemDoes P w0 ρ H w (Builtin.copy_ ats ty #[d', x']) c E := by
  unfold opCopy at h
  split at h
  · rename_i t ht
    split at h
    · rename_i el hu
      split at h
      · rename_i size base dl cp hs
        split at h
        · rename_i m cells rd hsrc
          obtain ⟨n0, hln, hmin, hmd, cells', hlr, hfc⟩ := copySrc_spec hI hx hsrc
          cases hoc : cells.all oneCell with
          | false => rw [hoc] at h; cases h
          | true =>
            rw [hoc] at h
            dsimp only [cond_true] at h
            split at h
            · cases hd; cases h
              exact ⟨ρ, goInt m, w, by simp [Builtin.copy_, ht, run_underlying hu, hln, hmin, run_size hs, hfc], hI.same c, .int _ _⟩
            · rename_i i off
              cases hd with | slice _ _ _ _ o' cap' k hk hl ho hc hbb => ?_
              split at h
              · rename_i E1 hst
                cases hz : Nat.beq m 0 && !cells.isEmpty with
                | true => rw [hz] at h; cases h
                | false =>
                  rw [hz] at h
                  cases h
                  obtain ⟨w', hrun, hg, hv⟩ := storeE_does hI hst hlr (all_oneCell hoc) hk (o' := o') (fun hne => by
                    rcases ho with ho | ho
                    · exact ho
                    · exfalso
                      obtain rfl : m = 0 := by omega
                      have : cells.isEmpty = false := by cases cells with | nil => exact absurd rfl hne | cons _ _ => rfl
                      rw [this] at hz
                      cases hz) c
                  refine ⟨ρ, goInt m, w', ?_, hg, by show VR ρ E1.v _; rw [hv]; exact .int _ _⟩
                  simp [Builtin.copy_, ht, run_underlying hu, hln, hmin, run_size hs, hfc, hrun]
              · cases h
            · cases h
        · cases h
      · cases h
    · cases h
  · cases h
end
end Go.Proofs.YtbnmjdmbdoehlaaGreatDoor.Ev
