/- What the evaluator's operations come to in the machine: cells, structs, slices. -/
import Derived.Test.YtbnmjdmbdoehlaaGreatDoorEb
namespace Go.Proofs.YtbnmjdmbdoehlaaGreatDoor.Ev
open Go Go.RowKit

section
variable {P : Program} {w0 : World} {ρ : Ren} {H : G} {w : World}

theorem plain_run {α : Type} {s : Sem α} : ∀ {x : α}, semPlain P s = some x → ∀ w, s.run P w = .ok x w := by
  induction s with
  | pure a => intro x h w; simp only [semPlain, Option.some.injEq] at h; subst h; rfl
  | program k ih => intro x h w; exact ih P h w
  | mark m k ih => intro x h w; exact ih h w
  | _ => intro x h; simp [semPlain] at h

theorem run_size {t : TypeId} {n : Nat} (h : sizeT P t = some n) (w : World) : (sizeOf t).run P w = .ok n w := by
  unfold sizeT at h
  split at h
  · rename_i i hi
    cases h
    simp [sizeOf, typeInfo, hi]
  · cases h
theorem run_info {t : TypeId} {i : TypeInfo} (h : P.info? t = some i) (w : World) : (typeInfo t).run P w = .ok i w := by
  simp [typeInfo, h]
theorem sizeT_info {t : TypeId} {i : TypeInfo} (h : P.info? t = some i) : sizeT P t = some i.size := by unfold sizeT; rw [h]
theorem zero_run {t : TypeId} {z : Value} (h : zeroOf P t = some z) : (∀ w, (zeroValue t).run P w = .ok z w) ∧ noAddr z = true := by
  unfold zeroOf at h
  split at h
  · rename_i i hi
    split at h
    · rename_i z' hz
      cases hn : noAddr z' with
      | true =>
        rw [hn] at h
        cases h
        exact ⟨fun w => by simp [zeroValue, typeInfo, hi, hz], hn⟩
      | false => rw [hn] at h; cases h
    · cases h
  · cases h

/-- An operation that yields a value. -/
def SemDoes (P : Program) (w0 : World) (ρ : Ren) (H : G) (w : World) (s : Sem Value) (c : Nat) (E : E) : Prop :=
  ∃ ρ' v' w', s.run P w = .ok v' w' ∧ Goes P w0 ρ c (c + E.n) ρ' (ap H E.up) w' ∧ VR ρ' E.v v'
/-- An operation that yields nothing. -/
def UnitDoes (P : Program) (w0 : World) (ρ : Ren) (H : G) (w : World) (s : Sem Unit) (c : Nat) (E : E) : Prop :=
  E.v = undef ∧ ∃ ρ' w', s.run P w = .ok () w' ∧ Goes P w0 ρ c (c + E.n) ρ' (ap H E.up) w'

theorem pureE_does (hI : Inv P w0 ρ H w) {v v' : Value} {E : E} (h : pureE v = some E) (hv : VR ρ v v') {s : Sem Value} (hs : s.run P w = .ok v' w) (c : Nat) : SemDoes P w0 ρ H w s c E := by
  cases h
  exact ⟨ρ, v', w, hs, hI.same c, hv⟩

/- Cells. -/
theorem take_drop_get {l : List Value} {a n j : Nat} (h : j < n) : ((l.drop a).take n)[j]? = l[a + j]? := by
  rw [List.getElem?_take, if_pos h, List.getElem?_drop]

theorem Inv.cells (hI : Inv P w0 ρ H w) {i : Nat} {f : Bool} {e : TypeId} {vs : List Value} {k : Blk} (hi : H i = some (.cells f e vs)) (hk : ρ i = some k) :
    ∃ c fr, w.heap[k.a]? = some (.cells c e fr) ∧ sizeT P e = some k.z ∧ c.size = k.n ∧ k.base + vs.length ≤ c.size ∧ LR ρ vs ((c.toList.drop k.base).take vs.length) ∧ OkFr fr c.size ∧ (f = true → k.base = 0 ∧ c.size = vs.length ∧ fr = (0, 0)) := by
  obtain ⟨k', o', hk', hlo, hb, ho⟩ := hI.live i _ hi
  obtain rfl : k' = k := Option.some.inj (hk'.symm.trans hk)
  cases ho with
  | cells _ _ _ c fr hz hn hb' hv hfr hfix => exact ⟨c, fr, hb, hz, hn, hb', hv, hfr, hfix⟩

theorem loadN_spec {i off n : Nat} {l : List Value} (h : loadN H i off n = some l) : ∃ f e vs, H i = some (.cells f e vs) ∧ l = (vs.drop off).take n ∧ l.length = n := by
  unfold loadN at h
  split at h
  · rename_i f e vs hi
    cases hb : Nat.beq ((vs.drop off).take n).length n with
    | true =>
      rw [hb] at h
      cases h
      exact ⟨f, e, vs, hi, rfl, by simpa using hb⟩
    | false => rw [hb] at h; cases h
  · cases h

/-- Cells looked at. -/
theorem loadN_cells (hI : Inv P w0 ρ H w) {i off n : Nat} {l : List Value} (h : loadN H i off n = some l) {k : Blk} (hk : ρ i = some k) :
    ∃ l', LR ρ l l' ∧ l'.length = n ∧ ∀ j v, l'[j]? = some v → w.cell? ⟨k.a, k.base + off + j, none⟩ = some v := by
  obtain ⟨f, e, vs, hi, rfl, hl⟩ := loadN_spec h
  obtain ⟨c, fr, hb, hz, hn, hb', hv, hfr, hfix⟩ := hI.cells hi hk
  refine ⟨_, (hv.drop off).take n, ?_, fun j v hj => ?_⟩
  · have := ((hv.drop off).take n).length; omega
  · have hj1 : j < n := by
      have := (List.getElem?_eq_some_iff.1 hj).1
      have e := ((hv.drop off).take n).length
      omega
    rw [take_drop_get hj1] at hj
    have hj2 : off + j < vs.length := by
      have := (List.getElem?_eq_some_iff.1 hj).1
      simp at this; omega
    rw [take_drop_get hj2] at hj
    simp only [World.cell?, hb]
    rw [if_neg (by simp)]
    simpa [Nat.add_assoc] using hj

theorem loadCells_of {b off n : Nat} {l : List Value} (hl : l.length = n) (h : ∀ j v, l[j]? = some v → w.cell? ⟨b, off + j, none⟩ = some v) : (loadCells ⟨b, off, none⟩ n).run P w = .ok l.toArray w := by
  rw [← hl]
  exact run_loadCells_list _ _ l fun j v hj => by rw [Addr.add_lit]; exact h j v hj

theorem run_agg {t : TypeId} {b : Bool} (h : aggT P t = some b) (w : World) : (isAgg t).run P w = .ok b w := by
  unfold aggT at h
  split at h <;> first
    | (rename_i hu; cases h; simp [isAgg, run_underlying hu]; done)
    | cases h
    | (rename_i d hu _ _; cases h; simp only [isAgg, Sem.run_bind, run_underlying hu, Result.andThen_ok]; cases d <;> first | rfl | (exfalso; simp_all; done))

theorem opLoad_does (hI : Inv P w0 ρ H w) {t : TypeId} {a a' : Value} (ha : VR ρ a a') {E : E} (h : opLoad P H t a = some E) (c : Nat) : SemDoes P w0 ρ H w (Instr.loadAt t a') c E := by
  unfold opLoad at h
  split at h
  · rename_i i off
    cases ha with | ptr _ _ k hk => ?_
    split at h
    · rename_i hag
      split at h
      · rename_i n hs
        split at h
        · rename_i l hl
          cases h
          obtain ⟨l', h1, h2, h3⟩ := loadN_cells hI hl hk
          refine ⟨ρ, .agg l'.toArray, w, ?_, hI.same c, VR.agg_iff.2 ⟨_, rfl, h1⟩⟩
          simp [Instr.loadAt, Instr.sureAddr, loadVar, run_agg hag, run_size hs, loadCells_of h2 h3]
        · cases h
      · cases h
    · rename_i hag
      split at h
      · rename_i v hl
        cases h
        obtain ⟨l', h1, h2, h3⟩ := loadN_cells hI hl hk
        obtain ⟨v', m', rfl, hv, _⟩ := h1.inv_cons
        have h4 := h3 0 v' rfl
        simp only [Nat.add_zero] at h4
        refine ⟨ρ, v', w, ?_, hI.same c, hv⟩
        simp [Instr.loadAt, Instr.sureAddr, loadVar, run_agg hag, h4]
      · cases h
    · cases h
  · cases h

/-- Cells from place k on, written. -/
def overw (cur : Array Value) : Nat → List Value → Array Value
  | _, [] => cur
  | k, v :: vs => overw (cur.setIfInBounds k v) (k + 1) vs
theorem overw_size : ∀ (vs : List Value) (cur : Array Value) (k : Nat), (overw cur k vs).size = cur.size
  | [], _, _ => rfl
  | v :: vs, cur, k => by show (overw _ _ vs).size = _; rw [overw_size vs]; simp
theorem overw_get : ∀ (vs : List Value) (cur : Array Value) (k : Nat), k + vs.length ≤ cur.size → ∀ j, (overw cur k vs)[j]? = if k ≤ j ∧ j < k + vs.length then vs[j - k]? else cur[j]?
  | [], cur, k, _, j => by rw [if_neg (by rintro ⟨h1, h2⟩; simp at h2; omega)]; rfl
  | v :: vs, cur, k, h, j => by
    simp at h
    show (overw (cur.setIfInBounds k v) (k + 1) vs)[j]? = _
    rw [overw_get vs _ _ (by simp; omega)]
    by_cases h1 : k + 1 ≤ j ∧ j < k + 1 + vs.length
    · rw [if_pos h1, if_pos (by simp; omega)]
      obtain ⟨d, rfl⟩ : ∃ d, j = k + 1 + d := ⟨j - (k + 1), by omega⟩
      rw [show k + 1 + d - (k + 1) = d by omega, show k + 1 + d - k = d + 1 by omega]; rfl
    · rw [if_neg h1]
      by_cases h2 : j = k
      · subst h2
        rw [if_pos (by simp), Nat.sub_self, Array.getElem?_setIfInBounds_self_of_lt (by omega)]; rfl
      · rw [if_neg (by simp; omega), Array.getElem?_setIfInBounds_ne (Ne.symm h2)]

theorem setAt_spec : ∀ {vs : List Value} {n : Nat} {xs r : List Value}, setAt vs n xs = some r → r.length = vs.length ∧ n + xs.length ≤ vs.length ∧ ∀ j, r[j]? = if n ≤ j ∧ j < n + xs.length then xs[j - n]? else vs[j]?
  | vs, 0, [], r, h => by
    simp only [setAt, Option.some.injEq] at h
    subst h
    exact ⟨rfl, by simp, fun j => by rw [if_neg (by simp)]⟩
  | [], 0, x :: xs, r, h => by simp [setAt] at h
  | [], n + 1, xs, r, h => by simp [setAt] at h
  | v :: vs, 0, x :: xs, r, h => by
    simp only [setAt] at h
    split at h
    · rename_i r' hr
      cases h
      obtain ⟨h1, h2, h3⟩ := setAt_spec hr
      refine ⟨by simp [h1], by simp at h2 ⊢; omega, fun j => ?_⟩
      cases j with
      | zero => simp
      | succ j =>
        have := h3 j
        simp only [Nat.zero_add, Nat.zero_le, true_and, Nat.sub_zero] at this ⊢
        simp only [List.getElem?_cons_succ, List.length_cons, Nat.add_lt_add_iff_right]
        exact this
    · cases h
  | v :: vs, n + 1, xs, r, h => by
    simp only [setAt] at h
    split at h
    · rename_i r' hr
      cases h
      obtain ⟨h1, h2, h3⟩ := setAt_spec hr
      refine ⟨by simp [h1], by simp at h2 ⊢; omega, fun j => ?_⟩
      cases j with
      | zero => rw [if_neg (by omega)]; rfl
      | succ j =>
        have := h3 j
        simp only [List.getElem?_cons_succ]
        rw [this]
        by_cases e : n ≤ j ∧ j < n + xs.length
        · rw [if_pos e, if_pos (by omega)]; congr 1; omega
        · rw [if_neg e, if_neg (by omega)]
    · cases h

theorem putObj_same {r : Nat} {o : Obj} (h : w.heap[r]? = some o) : w.putObj r o = w := by
  unfold World.putObj
  have : w.heap.setIfInBounds r o = w.heap := by
    apply Array.ext_getElem?
    intro j
    by_cases e : j = r
    · subst e
      rw [Array.getElem?_setIfInBounds_self_of_lt (Array.getElem?_eq_some_iff.1 h).1, h]
    · rw [Array.getElem?_setIfInBounds_ne (Ne.symm e)]
  rw [this]

theorem setCell_putObj {g o : Nat} {cur : Array Value} {e : TypeId} {fr : Nat × Nat} (h : w.heap[g]? = some (.cells cur e fr)) (v : Value) : w.setCell ⟨g, o, none⟩ v = w.putObj g (.cells (cur.setIfInBounds o v) e fr) := by
  unfold World.setCell World.putObj
  congr 1
  apply Array.ext_getElem?
  intro j
  rw [Array.getElem?_modify]
  by_cases e' : g = j
  · subst e'
    rw [if_pos rfl, Array.getElem?_setIfInBounds_self_of_lt (Array.getElem?_eq_some_iff.1 h).1, h]
    simp
  · rw [if_neg e', Array.getElem?_setIfInBounds_ne e']

theorem putObj_putObj (r : Nat) (o o' : Obj) : (w.putObj r o).putObj r o' = w.putObj r o' := by
  unfold World.putObj
  congr 1
  simp

theorem storeCells_run (g o : Nat) (e : TypeId) (fr : Nat × Nat) : ∀ (vs : List Value) (i : Nat) (cur : Array Value) (w : World), w.heap[g]? = some (.cells cur e fr) → o + i + vs.length ≤ cur.size → OkFr fr cur.size →
    (∀ v ∈ vs, v.oneCell' = true) → (storeCells ⟨g, o, none⟩ vs i).run P w = .ok () (w.putObj g (.cells (overw cur (o + i) vs) e fr))
  | [], i, cur, w, h, _, _, _ => by
    show (Pure.pure () : Sem Unit).run P w = _
    rw [Sem.run_pure]
    show _ = Result.ok () (w.putObj g (.cells cur e fr))
    rw [putObj_same h]
  | v :: vs, i, cur, w, h, hl, hf, h1 => by
    simp only [List.length_cons] at hl
    have hv := h1 v (by simp)
    have hlt : g < w.heap.size := (Array.getElem?_eq_some_iff.1 h).1
    have hc : ∃ x, w.cell? ⟨g, o + i, none⟩ = some x := by
      simp only [World.cell?, h]
      rw [if_neg (by simp)]
      exact ⟨cur[o + i]'(by omega), Array.getElem?_eq_getElem (by omega)⟩
    obtain ⟨x, hx⟩ := hc
    have hfr : w.frozen? ⟨g, o + i, none⟩ = false := by
      simp only [World.frozen?, h]
      exact hf.at (j := o + i) (by omega)
    have e1 : (storeCells ⟨g, o, none⟩ (v :: vs) i).run P w = (storeCells ⟨g, o, none⟩ vs (i + 1)).run P (w.setCell ⟨g, o + i, none⟩ v) := by
      show (do store (Addr.add ⟨g, o, none⟩ i) v; storeCells ⟨g, o, none⟩ vs (i + 1) : Sem Unit).run P w = _
      rw [Sem.run_bind, Addr.add_lit, run_store _ _ _ _ _ hv, hx]
      simp [hfr]
    rw [e1, setCell_putObj h]
    rw [storeCells_run g o e fr vs (i + 1) (cur.setIfInBounds (o + i) v) _ (World.putObj_heap_same hlt) (by simp; omega) (by simpa using hf) (fun u hu => h1 u (List.mem_cons_of_mem _ hu))]
    rw [putObj_putObj]
    rfl

theorem lr_get {vs : List Value} {c : Array Value} {b : Nat} (h : LR ρ vs ((c.toList.drop b).take vs.length)) {j : Nat} {x : Value} (hj : vs[j]? = some x) : ∃ y, c[b + j]? = some y ∧ VR ρ x y := by
  obtain ⟨y, hy, hr⟩ := h.get hj
  have hlt : j < vs.length := (List.getElem?_eq_some_iff.1 hj).1
  rw [take_drop_get hlt] at hy
  exact ⟨y, by simpa using hy, hr⟩
theorem lr_of {vs : List Value} {c : Array Value} {b : Nat} (hb : b + vs.length ≤ c.size) (h : ∀ j x, vs[j]? = some x → ∃ y, c[b + j]? = some y ∧ VR ρ x y) : LR ρ vs ((c.toList.drop b).take vs.length) := by
  refine L2.of_get (by simp; omega) fun j x y hx hy => ?_
  have hlt : j < vs.length := (List.getElem?_eq_some_iff.1 hx).1
  rw [take_drop_get hlt] at hy
  obtain ⟨y', hy', hr⟩ := h j x hx
  have : y = y' := Option.some.inj (hy.symm.trans (by simpa using hy'))
  rw [this]; exact hr

/-- Cells written. -/
theorem storeE_does (hI : Inv P w0 ρ H w) {i off : Nat} {cs cs' : List Value} {v : Value} {E : E} (h : storeE H i off cs v = some E) (hcs : LR ρ cs cs') (h1 : ∀ x ∈ cs, x.oneCell' = true) {k : Blk} (hk : ρ i = some k)
    {o' : Nat} (ho : cs ≠ [] → o' = k.base + off) (c : Nat) : ∃ w', (storeCells ⟨k.a, o', none⟩ cs').run P w = .ok () w' ∧ Goes P w0 ρ c (c + E.n) ρ (ap H E.up) w' ∧ E.v = v := by
  have h1' : ∀ x ∈ cs', x.oneCell' = true := by
    intro x hx
    obtain ⟨j, hj⟩ := List.getElem?_of_mem hx
    obtain ⟨y, hy, hr⟩ := hcs.get' hj
    rw [hr.oneCell]; exact h1 y (List.mem_of_getElem? hy)
  unfold storeE at h
  split at h
  · cases h
    rw [hcs.inv_nil]
    exact ⟨w, rfl, hI.same c, rfl⟩
  · rename_i hne
    split at h
    · rename_i f el vs hi
      split at h
      · rename_i vs' hs
        cases h
        obtain rfl := ho (fun e => by subst e; exact hne rfl)
        obtain ⟨q1, q2, q3⟩ := setAt_spec hs
        obtain ⟨cur, fr, hb, hz, hn, hb', hv, hfr, hfix⟩ := hI.cells hi hk
        have hlen := hcs.length
        have hfit : k.base + off + 0 + cs'.length ≤ cur.size := by omega
        refine ⟨_, storeCells_run k.a (k.base + off) el fr cs' 0 cur w hb hfit hfr h1', ?_, rfl⟩
        have hor : OR P ρ k (.cells f el vs') (.cells (overw cur (k.base + off + 0) cs') el fr) := by
          refine .cells f el vs' _ fr hz (by rw [overw_size]; exact hn) (by rw [overw_size]; omega) (lr_of (by rw [overw_size]; omega) fun j x hj => ?_) (by rw [overw_size]; exact hfr) (fun hf => ?_)
          · rw [overw_get _ _ _ hfit]
            rw [q3 j] at hj
            by_cases e : off ≤ j ∧ j < off + cs.length
            · rw [if_pos e] at hj
              rw [if_pos (by omega)]
              obtain ⟨y, hy, hr⟩ := hcs.get hj
              exact ⟨y, by rw [show k.base + j - (k.base + off + 0) = j - off by omega]; exact hy, hr⟩
            · rw [if_neg e] at hj
              rw [if_neg (by omega)]
              exact lr_get hv hj
          · obtain ⟨e1, e2, e3⟩ := hfix hf
            exact ⟨e1, by rw [overw_size, e2, q1], e3⟩
        exact ⟨Ren.le_refl _, fun _ _ => rfl, hI.put hi hk hor⟩
      · cases h
    · cases h

theorem all_oneCell {cs : List Value} (h : cs.all oneCell = true) : ∀ x ∈ cs, x.oneCell' = true := by
  intro x hx; exact List.all_eq_true.1 h x hx

theorem opStore_does (hI : Inv P w0 ρ H w) {t : TypeId} {a a' x x' : Value} (ha : VR ρ a a') (hx : VR ρ x x') {E : E} (h : opStore P H t a x = some E) (c : Nat) : UnitDoes P w0 ρ H w (Instr.storeAt t a' x') c E := by
  unfold opStore at h
  split at h
  · rename_i i off n hs
    cases ha with | ptr _ _ k hk => ?_
    cases hb : Nat.beq x.cells.toList.length n && x.cells.toList.all oneCell with
    | false => rw [hb] at h; cases h
    | true =>
      rw [hb] at h
      simp only [Bool.and_eq_true] at hb
      have hn : x.cells.toList.length = n := by simpa using hb.1
      obtain ⟨w', hr, hg, hv⟩ := storeE_does hI h hx.cells (all_oneCell hb.2) hk (fun _ => rfl) c
      have hsz : x'.cells.size = n := by
        have := hx.cells.length
        simp at this hn; omega
      refine ⟨hv, ρ, w', ?_, hg⟩
      simp [Instr.storeAt, Instr.sureAddr, storeVar, run_size hs, hsz, hr]
  · cases h

/-- A new row of cells. -/
theorem newRow_does (hI : Inv P w0 ρ H w) {c : Nat} (hc : ρ c = none) {el : TypeId} {z : Nat} (hz : sizeT P el = some z) {vs : List Value} {cs : Array Value} (fix : Bool) (hle : vs.length ≤ cs.size) (hv : LR ρ vs (cs.toList.take vs.length))
    (hfix : fix = true → cs.size = vs.length) : Goes P w0 ρ c (c + 1) (ρ.put c ⟨w.heap.size, 0, cs.size, z⟩) (ap H [(c, some (.cells fix el vs))]) (w.alloc (.cells cs el)) := by
  refine hI.new hc rfl (.cells fix el vs cs (0, 0) hz rfl (by simpa using hle) ?_ (.inl rfl) (fun h => ⟨rfl, hfix h, rfl⟩))
  exact LR.mono (Ren.le_put (k := ⟨w.heap.size, 0, cs.size, z⟩) hc) hv
theorem newRow_full (hI : Inv P w0 ρ H w) {c : Nat} (hc : ρ c = none) {el : TypeId} {z : Nat} (hz : sizeT P el = some z) {vs : List Value} {cs : Array Value} (hv : LR ρ vs cs.toList) :
    Goes P w0 ρ c (c + 1) (ρ.put c ⟨w.heap.size, 0, cs.size, z⟩) (ap H [(c, some (.cells true el vs))]) (w.alloc (.cells cs el)) := by
  have hl : vs.length = cs.size := by simpa using hv.length
  refine newRow_does hI hc hz true (by omega) ?_ (fun _ => hl.symm)
  rw [List.take_of_length_le (by simp; omega)]; exact hv

theorem sizeT_zero {t : TypeId} {z : Value} (h : zeroOf P t = some z) : ∃ n, sizeT P t = some n := by
  unfold zeroOf at h
  split at h
  · rename_i i hi; exact ⟨i.size, sizeT_info hi⟩
  · cases h

theorem opAlloc_does (hI : Inv P w0 ρ H w) {el : TypeId} {c : Nat} (hc : ρ c = none) {E : E} (h : opAlloc P c el = some E) : SemDoes P w0 ρ H w (Instr.alloc el true (.tuple #[])) c E := by
  unfold opAlloc at h
  split at h
  · rename_i z hz
    cases h
    obtain ⟨hr, hn⟩ := zero_run hz
    obtain ⟨n, hs⟩ := sizeT_zero hz
    have hg := newRow_full hI hc hs (vs := z.cells.toList) (cs := z.cells) (VR.cells (VR.refl z hn))
    refine ⟨_, .pointer (some ⟨w.heap.size, 0, none⟩), _, ?_, hg, ?_⟩
    · simp [Instr.alloc, hr, newVar, newRow]
    · exact VR.ptr c 0 _ (Ren.put_same _ _ _)
  · cases h

theorem opBox_does (hI : Inv P w0 ρ H w) {el : TypeId} {c : Nat} (hc : ρ c = none) {v v' : Value} (hv : VR ρ v v') {E : E} (h : opBox P c el v = some E) : SemDoes P w0 ρ H w (Instr.box el v') c E := by
  unfold opBox at h
  split at h
  · rename_i z hz
    cases h
    have hg := newRow_full hI hc hz (vs := v.cells.toList) (cs := v'.cells) hv.cells
    refine ⟨_, .pointer (some ⟨w.heap.size, 0, none⟩), _, ?_, hg, VR.ptr c 0 _ (Ren.put_same _ _ _)⟩
    simp [Instr.box, newVar, newRow]
  · cases h

/- Literals. -/
theorem fold_rel : ∀ {l l' : List Value}, LR ρ l l' → ∀ (off n : Nat) {c c' : Array Value}, LR ρ c.toList c'.toList →
    LR ρ ((l.zipIdx n).foldl (fun cs x => cs.setIfInBounds (off + x.2) x.1) c).toList ((l'.zipIdx n).foldl (fun cs x => cs.setIfInBounds (off + x.2) x.1) c').toList := by
  intro l l' h
  induction h with
  | nil => intro off n c c' h; exact h
  | cons h _ ih =>
    intro off n c c' hc
    simp only [List.zipIdx_cons, List.foldl_cons]
    refine ih off (n + 1) ?_
    simp only [Array.toList_setIfInBounds]
    exact hc.set _ h

theorem foldl_zip (cs : Array Value) (off : Nat) (c : Array Value) : cs.zipIdx.foldl (fun cs x => cs.setIfInBounds (off + x.2) x.1) c = (cs.toList.zipIdx 0).foldl (fun cs x => cs.setIfInBounds (off + x.2) x.1) c := by
  rw [← Array.foldl_toList, Array.toList_zipIdx]

theorem fill_rel (place : Nat → Option (Nat × Nat)) : ∀ {ps ps' : List (Nat × Value)}, L2 (fun p q => q.1 = p.1 ∧ VR ρ p.2 q.2) ps ps' → ∀ {c c' r : Array Value}, LR ρ c.toList c'.toList → Instr.fill place c ps = some r →
    ∃ r', Instr.fill place c' ps' = some r' ∧ LR ρ r.toList r'.toList := by
  intro ps ps' h
  induction h with
  | nil => intro c c' r hc h; simp only [Instr.fill, Option.some.injEq] at h; subst h; exact ⟨c', rfl, hc⟩
  | @cons p q _ _ h _ ih =>
    obtain ⟨i, v⟩ := p
    obtain ⟨i', v'⟩ := q
    obtain ⟨rfl, hv⟩ := h
    intro c c' r hc hr
    simp only [Instr.fill] at hr ⊢
    have hl : v'.cells.size = v.cells.size := by simpa using hv.cells.length.symm
    have hcl : c'.size = c.size := by simpa using hc.length.symm
    rw [hl, hcl]
    split at hr
    · cases hr
    · rename_i off size hp
      split at hr
      · cases hr
      · rename_i hcond
        rw [if_neg hcond]
        refine ih ?_ hr
        have := fold_rel hv.cells off 0 hc
        rw [← foldl_zip, ← foldl_zip] at this
        exact this

theorem opBuild_does (hI : Inv P w0 ρ H w) {t : TypeId} {ps : List (Nat × Value)} {ps' : Array (Nat × Value)} (hp : L2 (fun p q => q.1 = p.1 ∧ VR ρ p.2 q.2) ps ps'.toList) {E : E} (h : opBuild P t ps = some E) (c : Nat) : SemDoes P w0 ρ H w (Instr.build t ps') c E := by
  unfold opBuild at h
  split at h
  · rename_i z fs hz hu
    obtain ⟨hr, hn⟩ := zero_run hz
    split at h
    · rename_i pl hpl
      split at h
      · rename_i cs hf
        obtain ⟨cs', hf', hl⟩ := fill_rel (pl[·]?) hp (VR.cells (VR.refl z hn)) hf
        refine pureE_does hI h (VR.agg_iff.2 ⟨cs', rfl, hl⟩) ?_ c
        have h1 := plain_run hpl w
        unfold places at h1
        simp only [Instr.build, Sem.run_bind, hr, Result.andThen_ok, run_underlying hu, h1, hf']
        rfl
      · cases h
    · cases h
  · rename_i z n el hz hu
    obtain ⟨hr, hn⟩ := zero_run hz
    split at h
    · rename_i size hs
      split at h
      · rename_i cs hf
        obtain ⟨cs', hf', hl⟩ := fill_rel _ hp (VR.cells (VR.refl z hn)) hf
        refine pureE_does hI h (VR.agg_iff.2 ⟨cs', rfl, hl⟩) ?_ c
        simp only [Instr.build, Sem.run_bind, hr, Result.andThen_ok, run_underlying hu, run_size hs, hf']
        rfl
      · cases h
    · cases h
  · cases h
end
end Go.Proofs.YtbnmjdmbdoehlaaGreatDoor.Ev
