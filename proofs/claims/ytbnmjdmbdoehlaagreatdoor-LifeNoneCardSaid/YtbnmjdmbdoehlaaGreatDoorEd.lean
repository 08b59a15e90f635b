/- What the evaluator's operations come to in the machine: slices, fields, places. -/
import Derived.Test.YtbnmjdmbdoehlaaGreatDoorEc
namespace Go.Proofs.YtbnmjdmbdoehlaaGreatDoor.Ev
open Go Go.RowKit

section
variable {P : Program} {w0 : World} {ρ : Ren} {H : G} {w : World}

theorem opBuildSlice_does (hI : Inv P w0 ρ H w) {t : TypeId} {c len : Nat} (hc : ρ c = none) {ps : List (Nat × Value)} {ps' : Array (Nat × Value)} (hp : L2 (fun p q => q.1 = p.1 ∧ VR ρ p.2 q.2) ps ps'.toList) {E : E}
    (h : opBuildSlice P c t len ps = some E) : SemDoes P w0 ρ H w (Instr.buildSlice t len ps') c E := by
  unfold opBuildSlice at h
  split at h
  · rename_i el hu
    split at h
    · rename_i size z hs hz
      obtain ⟨hr, hn⟩ := zero_run hz
      cases hb : Nat.ble (len * size) 65536 && Nat.blt len lim with
      | false => rw [hb] at h; cases h
      | true =>
        rw [hb] at h
        simp only [Bool.and_eq_true, Nat.ble_eq, Nat.blt_eq] at hb
        dsimp only [cond_true] at h
        split at h
        · rename_i cs hf
          cases h
          have hzero : LR ρ (if len * size = 0 then (#[] : Array Value) else z.cells).toList (if len * size = 0 then (#[] : Array Value) else z.cells).toList := by
            split
            · exact .nil
            · exact VR.cells (VR.refl z hn)
          have h0 : LR ρ ((Array.range (len * size)).map ((if len * size = 0 then (#[] : Array Value) else z.cells)[· % (if len * size = 0 then (#[] : Array Value) else z.cells).size]!)).toList
              ((Array.range (len * size)).map ((if len * size = 0 then (#[] : Array Value) else z.cells)[· % (if len * size = 0 then (#[] : Array Value) else z.cells).size]!)).toList := by
            refine L2.refl fun v hv => ?_
            generalize (if len * size = 0 then (#[] : Array Value) else z.cells) = zz at hzero hv
            simp only [Array.toList_map, List.mem_map] at hv
            obtain ⟨i, _, rfl⟩ := hv
            by_cases hlt : i % zz.size < zz.size
            · rw [getElem!_pos zz _ hlt]
              obtain ⟨y, hy, hr⟩ := hzero.get (j := i % zz.size) (a := zz[i % zz.size]) (by simp [hlt])
              have : y = zz[i % zz.size] := by simpa [hlt] using hy.symm
              rw [← this] at hr ⊢; exact hr
            · rw [getElem!_neg zz _ hlt]
              exact VR.refl _ rfl
          obtain ⟨cs', hf', hl⟩ := fill_rel _ hp h0 hf
          have hg := newRow_full hI hc hs (vs := cs.toList) (cs := cs') hl
          refine ⟨_, .slice (some ⟨w.heap.size, 0, none⟩) len len, _, ?_, hg, VR.slice c 0 len len 0 len _ (Ren.put_same _ _ _) (Nat.le_refl _) (.inl rfl) (CapR.exact (by unfold lim at hb; unfold big; omega)) (fun hb' => by unfold lim at hb; unfold big at hb'; omega)⟩
          have hlim : ¬ (len * size > 2 ^ 24) := by omega
          by_cases hzz : len * size = 0
          · simp only [if_pos hzz] at hf'
            simp only [Instr.buildSlice, Sem.run_bind, run_underlying hu, Result.andThen_ok, run_size hs, if_neg hlim, if_pos hzz, Sem.run_pure, hf', newRow, run_newObj]
            rfl
          · simp only [if_neg hzz] at hf'
            simp only [Instr.buildSlice, Sem.run_bind, run_underlying hu, Result.andThen_ok, run_size hs, if_neg hlim, if_neg hzz, hr, Sem.run_pure, hf', newRow, run_newObj]
            rfl
        · cases h
    · cases h
  · cases h

theorem opNilCheck_val {x : Value} {E : E} (h : opNilCheck x = some E) : pureE x = some E ∧ x ≠ .pointer none ∧ x ≠ .nilIface ∧ x ≠ .nilFunc ∧ ∀ m f c, x ≠ .func (.method m) f c := by
  unfold opNilCheck at h
  split at h
  · cases h
  · cases h
  · cases h
  · cases h
  · rename_i h1 h2 h3 h4; exact ⟨h, h1, h2, h3, h4⟩

theorem opMakeIface_does (hI : Inv P w0 ρ H w) {t : TypeId} {x x' : Value} (hx : VR ρ x x') {E : E} (h : opMakeIface P t x = some E) (c : Nat) : SemDoes P w0 ρ H w (Instr.makeInterface t x') c E := by
  unfold opMakeIface at h
  split at h
  · cases h
  · rename_i d hu hn
    refine pureE_does hI h (.iface t x x' hx) ?_ c
    simp only [Instr.makeInterface, Sem.run_bind, run_underlying hn, Result.andThen_ok]
    rfl
  · cases h

theorem opMakeFunc_does (hI : Inv P w0 ρ H w) {fn : Fn} {fs fs' cs cs' : Array Value} (h1 : LR ρ fs.toList fs'.toList) (h2 : LR ρ cs.toList cs'.toList) {E : E} (h : opMakeFunc fn fs cs = some E) (c : Nat) : SemDoes P w0 ρ H w (Instr.makeFunc fn fs' cs') c E := by
  unfold opMakeFunc at h
  split at h
  · rename_i f
    exact pureE_does hI h (VR.func_iff.2 ⟨_, _, _, rfl, .func f, h1, h2⟩) rfl c
  · cases h

theorem newMap_does (hI : Inv P w0 ρ H w) {c : Nat} (hc : ρ c = none) {E : E} (h : newE c (.map (some c)) (.map [] 0) = some E) : ∃ ρ', Goes P w0 ρ c (c + E.n) ρ' (ap H E.up) (w.alloc (.map #[] 0)) ∧ VR ρ' E.v (.map (some w.heap.size)) := by
  cases h
  have hg := hI.new hc (k := ⟨w.heap.size, 0, 0, 0⟩) rfl (OR.map (P := P) (ρ := ρ.put c ⟨w.heap.size, 0, 0, 0⟩) (k := ⟨w.heap.size, 0, 0, 0⟩) [] #[] 0 .nil)
  exact ⟨_, hg, VR.map c _ (Ren.put_same _ _ _)⟩
theorem opMakeMap_does (hI : Inv P w0 ρ H w) {t : TypeId} {c : Nat} (hc : ρ c = none) {r r' : Option Value} (hr : (r = none ∧ r' = none) ∨ ∃ x x', r = some x ∧ r' = some x' ∧ VR ρ x x') {E : E} (h : opMakeMap P c t r = some E) : SemDoes P w0 ρ H w (Instr.makeMap t r') c E := by
  unfold opMakeMap at h
  split at h
  · obtain ⟨ρ', hg, hv⟩ := newMap_does hI hc h
    rcases hr with ⟨_, rfl⟩ | ⟨x, x', hx, _⟩
    · refine ⟨ρ', _, _, ?_, hg, hv⟩
      simp [Instr.makeMap]
    · cases hx
  · rename_i k n
    split at h
    · rename_i a b hu
      obtain ⟨ρ', hg, hv⟩ := newMap_does hI hc h
      rcases hr with ⟨hx, _⟩ | ⟨x, x', hx, rfl, hxx⟩
      · cases hx
      · cases hx
        cases hxx
        refine ⟨ρ', _, _, ?_, hg, hv⟩
        simp [Instr.makeMap, run_underlying hu, asInt, asIntOf]
    · cases h
  · cases h

theorem opMakeSlice_does (hI : Inv P w0 ρ H w) {t : TypeId} {c : Nat} (hc : ρ c = none) {l l' k k' : Value} (hl : VR ρ l l') (hk : VR ρ k k') {E : E} (h : opMakeSlice P c t l k = some E) : SemDoes P w0 ρ H w (Instr.makeSlice t l' k') c E := by
  unfold opMakeSlice at h
  split at h
  · rename_i el kl l kk k hu
    cases hl
    cases hk
    split at h
    · rename_i inf z hi hz
      obtain ⟨hr, hn⟩ := zero_run hz
      have hs := sizeT_info hi
      split at h
      · rename_i hcond
        obtain ⟨g1, g2, g3, g4, g5⟩ := hcond
        cases h
        have hw1 : IntKind.i64.wrap l = l := IntWalk.i64_in _ (by omega)
        have hw2 : IntKind.i64.wrap k = k := IntWalk.i64_in _ (by omega)
        have hprod : (inf.bytes : Int) * k < 281474976710656 := by
          have h1 : (inf.bytes : Int) * k ≤ 65536 * k := Int.mul_le_mul_of_nonneg_right (by omega) (by omega)
          omega
        have hprod2 : (inf.bytes : Int) * l < 281474976710656 := by
          have h1 : (inf.bytes : Int) * l ≤ 65536 * l := Int.mul_le_mul_of_nonneg_right (by omega) (by omega)
          omega
        have htl : ∀ n : Int, 0 ≤ n → (inf.bytes : Int) * n < 281474976710656 → (decide (n < 0) || decide ((inf.bytes : Int) * n > 2 ^ 48)) = false := by
          intro n h0 h1
          simp; omega
        have h0 : ∀ zz : Array Value, (∀ v ∈ zz, noAddr v = true) → LR ρ ((Array.range (k.toNat * inf.size)).map (zz[· % zz.size]!)).toList ((Array.range (k.toNat * inf.size)).map (zz[· % zz.size]!)).toList := by
          intro zz hzz
          refine L2.refl fun v hv => ?_
          simp only [Array.toList_map, List.mem_map] at hv
          obtain ⟨i, _, rfl⟩ := hv
          by_cases hlt : i % zz.size < zz.size
          · rw [getElem!_pos zz _ hlt]; exact VR.refl _ (hzz _ (by simp))
          · rw [getElem!_neg zz _ hlt]; exact VR.refl _ rfl
        have hzz : ∀ v ∈ (if k.toNat * inf.size = 0 then (#[] : Array Value) else z.cells), noAddr v = true := by
          intro v hv
          split at hv
          · simp at hv
          · cases z with
            | agg cs => simp only [noAddr] at hn; exact noAddrL_iff.1 hn v (by simpa [Value.cells] using hv)
            | _ => simp only [Value.cells, List.mem_toArray, List.mem_singleton] at hv; subst hv; exact hn
        have hg := newRow_full hI hc hs (h0 _ hzz)
        refine ⟨_, .slice (some ⟨w.heap.size, 0, none⟩) l.toNat k.toNat, _, ?_, hg, VR.slice c 0 l.toNat k.toNat 0 k.toNat _ (Ren.put_same _ _ _) (by omega) (.inl rfl) (CapR.exact (by unfold big; omega)) (fun hb' => by unfold big at hb'; omega)⟩
        have ht := htl k (by omega) hprod
        have hlk : decide (l > k) = false := by simp; omega
        have hl0 : decide (l < 0) = false := by simp; omega
        by_cases hzz2 : k.toNat * inf.size = 0
        · simp only [Instr.makeSlice, Sem.run_bind, run_underlying hu, Result.andThen_ok, asInt, asIntOf, Sem.run_pure, run_info hi, hw1, hw2, ht, hlk, hl0, Bool.or_self, Bool.false_eq_true, if_false, run_askRoom, run_size hs, if_pos hzz2, newRow, run_newObj]
          rfl
        · simp only [Instr.makeSlice, Sem.run_bind, run_underlying hu, Result.andThen_ok, asInt, asIntOf, Sem.run_pure, run_info hi, hw1, hw2, ht, hlk, hl0, Bool.or_self, Bool.false_eq_true, if_false, run_askRoom, run_size hs, if_neg hzz2, hr, newRow, run_newObj]
          rfl
      · cases h
    · cases h
  · cases h

/- Slices of slices. -/
theorem bound_spec {x x' : Value} (hx : VR ρ x x') {y n : Nat} (h : bound x y = some n) {y' : Nat} (hy : y ≤ y') (code : BoundsCode) : n ≤ y ∧ (Instr.sliceBound x' y' code).run P w = .ok n w := by
  unfold bound at h
  split at h
  · rename_i k i
    cases hx
    split at h
    · rename_i hc
      cases h
      refine ⟨by omega, ?_⟩
      have : 0 ≤ i ∧ i ≤ (y' : Int) := by omega
      simp [Instr.sliceBound, asIntOf, this]
    · cases h
  · cases h

def ORel (ρ : Ren) (r r' : Option Value) : Prop := (r = none ∧ r' = none) ∨ ∃ x x', r = some x ∧ r' = some x' ∧ VR ρ x x'
theorem bound0_spec {x x' : Option Value} (hx : ORel ρ x x') {d y n : Nat} (h : bound0 d x y = some n) {y' : Nat} (hy : y ≤ y') (code : BoundsCode) :
    n ≤ y ∧ (match x' with | some v => Instr.sliceBound v y' code | none => pure d).run P w = .ok n w := by
  unfold bound0 at h
  rcases hx with ⟨rfl, rfl⟩ | ⟨v, v', rfl, rfl, hv⟩
  · dsimp only at h ⊢
    split at h
    · cases h; exact ⟨by assumption, rfl⟩
    · cases h
  · exact bound_spec hv h hy code

theorem sliceBounds_run {lo lo' hi hi' : Option Value} (hl : ORel ρ lo lo') (hh : ORel ρ hi hi') {d y y' h l : Nat} (h1 : bound0 d hi y = some h) (h2 : bound0 0 lo h = some l) (hy : y ≤ y') (b : Bool) :
    l ≤ h ∧ h ≤ y ∧ (Instr.sliceBounds b d y' lo' hi' none).run P w = .ok (l, h, y') w := by
  obtain ⟨q1, _⟩ := bound0_spec (P := P) (w := w) hh h1 hy (if b then .sliceAcap else .sliceAlen)
  have q2 := fun code => (bound0_spec (P := P) (w := w) hh h1 hy code).2
  obtain ⟨q3, _⟩ := bound0_spec (P := P) (w := w) hl h2 (Nat.le_refl h) .sliceB
  have q4 := fun code => (bound0_spec (P := P) (w := w) hl h2 (Nat.le_refl h) code).2
  refine ⟨q3, q1, ?_⟩
  rcases hh with ⟨rfl, rfl⟩ | ⟨v, v', rfl, rfl, hv⟩
  · have e1 := q2 .index
    rcases hl with ⟨rfl, rfl⟩ | ⟨u, u', rfl, rfl, hu⟩
    · have e2 := q4 .index
      simp only [Sem.run_pure, Result.ok.injEq, and_true] at e1 e2
      subst e1; subst e2
      simp [Instr.sliceBounds]
    · simp only [Sem.run_pure, Result.ok.injEq, and_true] at e1
      subst e1
      have e2 := q4 .sliceB
      simp [Instr.sliceBounds] at e2 ⊢
      simp [e2]
  · have e1 := q2 (if b then .sliceAcap else .sliceAlen)
    rcases hl with ⟨rfl, rfl⟩ | ⟨u, u', rfl, rfl, hu⟩
    · have e2 := q4 .index
      simp only [Sem.run_pure, Result.ok.injEq, and_true] at e2
      subst e2
      simp [Instr.sliceBounds] at e1 ⊢
      simp [e1]
    · have e2 := q4 .sliceB
      simp [Instr.sliceBounds] at e1 e2 ⊢
      simp [e1, e2]

theorem sliceBounds3_run {lo lo' : Option Value} {hi hi' mx mx' : Value} (hl : ORel ρ lo lo') (hh : VR ρ hi hi') (hm : VR ρ mx mx') {d y y' m h l : Nat} (h0 : bound mx y = some m) (h1 : bound hi m = some h) (h2 : bound0 0 lo h = some l) (hy : y ≤ y') :
    l ≤ h ∧ h ≤ m ∧ m ≤ y ∧ (Instr.sliceBounds true d y' lo' (some hi') (some mx')).run P w = .ok (l, h, m) w := by
  obtain ⟨q0, e0⟩ := bound_spec (P := P) (w := w) hm h0 hy .slice3Acap
  obtain ⟨q1, e1⟩ := bound_spec (P := P) (w := w) hh h1 (Nat.le_refl m) .slice3B
  obtain ⟨q3, e2⟩ := bound0_spec (P := P) (w := w) hl h2 (Nat.le_refl h) .slice3C
  refine ⟨q3, q1, q0, ?_⟩
  rcases hl with ⟨rfl, rfl⟩ | ⟨u, u', rfl, rfl, hu⟩
  · simp only [Sem.run_pure, Result.ok.injEq, and_true] at e2
    subst e2
    simp [Instr.sliceBounds, e0, e1]
  · dsimp only at e2
    simp [Instr.sliceBounds, e0, e1, e2]

theorem kindOk_spec (hI : Inv P w0 ρ H w) {i size cap : Nat} (h : kindOk P H i size cap = true) {k : Blk} (hk : ρ i = some k) (hb : big ≤ cap) : k.z = size := by
  unfold kindOk at h
  have e : Nat.blt cap big = false := by
    cases hh : Nat.blt cap big with
    | false => rfl
    | true => have := blt_lt hh; omega
  rw [e] at h
  dsimp only [cond_false] at h
  split at h
  · rename_i f t vs hi
    obtain ⟨c, fr, hb, hz, _⟩ := hI.cells hi hk
    rw [hz] at h
    simpa using h
  · cases h

theorem slice_moves {i off len cap o' cap' size h l : Nat} {k : Blk} (hk : ρ i = some k) (hl : len ≤ cap') (ho : o' = k.base + off ∨ cap' = 0) (hc : CapR cap cap') (hb : big ≤ cap → cap' = 0 ∨ o' + cap' * k.z ≤ k.n)
    (hz : big ≤ cap → k.z = size) (h1 : l ≤ h) (h2 : h ≤ capLo cap) :
    VR ρ (.slice (some ⟨i, (if cap = l then off else off + l * size), none⟩) (h - l) (cap - l)) (.slice (some ⟨k.a, (if cap' = l then o' else o' + l * size), none⟩) (h - l) (cap' - l)) := by
  have hlo := hc.lo
  have hcl : big ≤ cap → capLo cap = cap - big := capLo_ge
  have hcl2 : cap < big → capLo cap = cap := capLo_lt
  have hbig : 0 < big := by unfold big; omega
  refine VR.slice i _ _ _ _ _ k hk (by omega) ?_ ⟨fun hlt => ?_, fun hge => ?_⟩ (fun hge => ?_)
  · by_cases e : cap' = l
    · exact .inr (by omega)
    · rw [if_neg e]
      have hne : cap ≠ l := by
        intro e2
        by_cases hbc : cap < big
        · have := hc.1 hbc; omega
        · have := hcl (by omega); omega
      rw [if_neg hne]
      rcases ho with ho | ho
      · exact .inl (by omega)
      · exact absurd ho (by omega)
  · by_cases hbc : cap < big
    · have := hc.1 hbc; omega
    · have := hcl (by omega); omega
  · by_cases hbc : cap < big
    · omega
    · have := hc.2 (by omega); omega
  · by_cases hbc : cap < big
    · omega
    · have hbc' : big ≤ cap := by omega
      by_cases e : cap' = l
      · exact .inl (by omega)
      · rw [if_neg e]
        rcases hb hbc' with h0 | h0
        · exact .inl (by omega)
        · right
          rw [hz hbc'] at h0 ⊢
          have h3 : l ≤ cap' := by omega
          have h4 : l * size + (cap' - l) * size = cap' * size := by rw [← Nat.add_mul]; congr 1; omega
          omega

theorem opSlice_does (hI : Inv P w0 ρ H w) {e : Operand → Value} {o : Oper} {t : TypeId} {x x' : Value} (hx : VR ρ x x') {lo lo' hi hi' mx mx' : Option Value} (hlo : ORel ρ lo lo') (hhi : ORel ρ hi hi') (hmx : ORel ρ mx mx') {E : E}
    (h : opSlice P e H o t x lo hi mx = some E) (hs : ∀ b, x ≠ .string b) (c : Nat) : SemDoes P w0 ρ H w (Instr.sliceAt t x' lo' hi' mx') c E := by
  unfold opSlice at h
  split at h
  · rename_i i off
    cases hx with | ptr _ _ k hk => ?_
    split at h
    · rename_i n el hu
      split at h
      · rename_i size hsz
        obtain rfl : mx' = none := by
          rcases hmx with ⟨_, rfl⟩ | ⟨_, _, hh, _⟩
          · rfl
          · cases hh
        split at h
        · rename_i hh h1
          split at h
          · rename_i l h2
            obtain ⟨q1, q2, q3⟩ := sliceBounds_run (P := P) (w := w) hlo hhi h1 h2 (Nat.le_refl n) false
            cases hb : Nat.blt n big with
            | false => rw [hb] at h; cases h
            | true =>
              rw [hb] at h
              have hbig : n < big := blt_lt hb
              refine pureE_does hI h (v' := .slice (some ⟨k.a, (if n = l then k.base + off else k.base + off + l * size), none⟩) (hh - l) (n - l)) ?_ ?_ c
              · refine VR.slice i _ _ _ _ _ k hk (by omega) (.inl (by split <;> omega)) (CapR.exact (by omega)) (fun hb' => by omega)
              · simp only [Instr.sliceAt, Sem.run_bind, run_underlying hu, Result.andThen_ok, Instr.sureAddr, Sem.run_pure, q3, run_size hsz, Addr.add_lit]
                split <;> rfl
          · cases h
        · cases h
      · cases h
    · cases h
  · rename_i a len cap
    split at h
    · rename_i el hu
      split at h
      · rename_i size hsz
        split at h
        · obtain rfl : mx' = none := by
            rcases hmx with ⟨_, rfl⟩ | ⟨_, _, hh, _⟩
            · rfl
            · cases hh
          split at h
          · rename_i hh h1
            split at h
            · rename_i l h2
              split at h
              · rename_i i off
                cases hx with | slice _ _ _ _ o' cap' k hk hl ho hc hb => ?_
                obtain ⟨q1, q2, q3⟩ := sliceBounds_run (P := P) (w := w) hlo hhi h1 h2 hc.lo true
                cases hko : kindOk P H i size cap with
                | false => rw [hko] at h; cases h
                | true =>
                  rw [hko] at h
                  cases h
                  refine ⟨ρ, _, w, ?_, hI.same c, slice_moves hk hl ho hc hb (kindOk_spec hI hko hk) q1 q2⟩
                  simp only [Instr.sliceAt, Sem.run_bind, run_underlying hu, Result.andThen_ok, Instr.slice, q3, run_size hsz, Sem.run_pure]
                  split <;> simp [Addr.add_lit]
              · cases hx
                obtain ⟨q1, q2, q3⟩ := sliceBounds_run (P := P) (w := w) (y' := cap) hlo hhi h1 h2 (capLo_le cap) true
                refine pureE_does hI h (.sliceNil _ _) ?_ c
                simp only [Instr.sliceAt, Sem.run_bind, run_underlying hu, Result.andThen_ok, Instr.slice, q3, run_size hsz, Sem.run_pure]
                split <;> simp
              · cases h
            · cases h
          · cases h
        · rename_i mx
          obtain ⟨mx', rfl, hm⟩ : ∃ y, mx' = some y ∧ VR ρ mx y := by
            rcases hmx with ⟨hh, _⟩ | ⟨_, y, hh, rfl, hv⟩
            · cases hh
            · cases hh; exact ⟨y, rfl, hv⟩
          split at h
          · rename_i m h0
            split at h
            · rename_i hi
              obtain ⟨hi', rfl, hhv⟩ : ∃ y, hi' = some y ∧ VR ρ hi y := by
                rcases hhi with ⟨hh, _⟩ | ⟨_, y, hh, rfl, hv⟩
                · cases hh
                · cases hh; exact ⟨y, rfl, hv⟩
              split at h
              · rename_i hh h1
                split at h
                · rename_i l h2
                  split at h
                  · rename_i i off
                    cases hx with | slice _ _ _ _ o' cap' k hk hl ho hc hb => ?_
                    obtain ⟨q1, q2, q3, q4⟩ := sliceBounds3_run (P := P) (w := w) (d := len) hlo hhv hm h0 h1 h2 hc.lo
                    cases hbm : Nat.blt m big with
                    | false => rw [hbm] at h; cases h
                    | true =>
                      rw [hbm] at h
                      have hbig : m < big := blt_lt hbm
                      have hlo' := hc.lo
                      refine pureE_does hI h (v' := .slice (some ⟨k.a, (if m = l then o' else o' + l * size), none⟩) (hh - l) (m - l)) ?_ ?_ c
                      · refine VR.slice i _ _ _ _ _ k hk (by omega) ?_ (CapR.exact (by omega)) (fun hb' => by omega)
                        by_cases e : m = l
                        · exact .inr (by omega)
                        · rw [if_neg e, if_neg e]
                          rcases ho with ho | ho
                          · exact .inl (by omega)
                          · exact absurd ho (by omega)
                      · simp only [Instr.sliceAt, Sem.run_bind, run_underlying hu, Result.andThen_ok, Instr.slice, q4, run_size hsz, Sem.run_pure]
                        split <;> simp [Addr.add_lit]
                  · cases hx
                    obtain ⟨q1, q2, q3, q4⟩ := sliceBounds3_run (P := P) (w := w) (d := len) (y' := cap) hlo hhv hm h0 h1 h2 (capLo_le cap)
                    refine pureE_does hI h (.sliceNil _ _) ?_ c
                    simp only [Instr.sliceAt, Sem.run_bind, run_underlying hu, Result.andThen_ok, Instr.slice, q4, run_size hsz, Sem.run_pure]
                    split <;> simp
                  · cases h
                · cases h
              · cases h
            · cases h
          · cases h
      · cases h
    · cases h
  · rename_i b; exact absurd rfl (hs b)
  · cases h

/- Fields and places. -/
theorem opFieldAddr_does (hI : Inv P w0 ρ H w) {t : TypeId} {x x' : Value} (hx : VR ρ x x') {f : Nat} {E : E} (h : opFieldAddr P t x f = some E) (c : Nat) : SemDoes P w0 ρ H w (Instr.fieldAt t x' f) c E := by
  unfold opFieldAddr at h
  split at h
  · rename_i fs i off hu
    cases hx with | ptr _ _ k hk => ?_
    split at h
    · rename_i fd hf
      split at h
      · rename_i n hs
        refine pureE_does hI h (v' := .pointer (some ⟨k.a, k.base + (off + fd.offset), none⟩)) (VR.ptr i _ k hk) ?_ c
        simp [Instr.fieldAt, run_underlying hu, hf, Instr.sureAddr, fieldPlace, run_size hs, Addr.add_lit, Nat.add_assoc]
      · cases h
    · cases h
  · cases h

theorem partV_does {t : TypeId} {cs cs' : Array Value} (hc : LR ρ cs.toList cs'.toList) {off : Nat} {v : Value} (h : partV P t cs off = some v) : ∃ v', (part t cs' off).run P w = .ok v' w ∧ VR ρ v v' := by
  unfold partV at h
  split at h
  · rename_i hag
    split at h
    · rename_i n hs
      cases h
      refine ⟨.agg (cs'.extract off (off + n)), ?_, VR.agg_iff.2 ⟨_, rfl, ?_⟩⟩
      · simp [part, run_agg hag, run_size hs]
      · simp only [Array.toList_extract]
        have := (hc.drop off).take n
        simpa [List.extract_eq_take_drop] using this
    · cases h
  · rename_i hag
    obtain ⟨y, hy, hr⟩ := hc.get (j := off) (a := v) (by simpa using h)
    refine ⟨y, ?_, hr⟩
    simp only [Array.getElem?_toList] at hy
    simp [part, run_agg hag, hy]
  · cases h

theorem opField_does (hI : Inv P w0 ρ H w) {t : TypeId} {x x' : Value} (hx : VR ρ x x') {f : Nat} {E : E} (h : opField P t x f = some E) (c : Nat) : SemDoes P w0 ρ H w (Instr.field t x' f) c E := by
  unfold opField at h
  split at h
  · rename_i fs cs hu
    obtain ⟨ys, rfl, hc⟩ := VR.agg_iff.1 hx
    split at h
    · rename_i fd hf
      split at h
      · rename_i v hv
        obtain ⟨v', hr, hvr⟩ := partV_does (P := P) (w := w) hc hv
        refine pureE_does hI h hvr ?_ c
        simp [Instr.field, run_underlying hu, hf, asAgg, hr]
      · cases h
    · cases h
  · cases h

theorem inside_spec {x x' : Value} (hx : VR ρ x x') {n k : Nat} (h : inside x n = some k) : ∃ kd i, x' = .int kd i ∧ 0 ≤ i ∧ i < (n : Int) ∧ k = i.toNat := by
  unfold inside at h
  split at h
  · rename_i kd i
    cases hx
    split at h
    · rename_i hc
      cases h
      exact ⟨kd, i, rfl, hc.1, hc.2, rfl⟩
    · cases h
  · cases h

theorem opIndexAddr_does (hI : Inv P w0 ρ H w) {t : TypeId} {x x' ix ix' : Value} (hx : VR ρ x x') (hix : VR ρ ix ix') {E : E} (h : opIndexAddr P t x ix = some E) (c : Nat) : SemDoes P w0 ρ H w (Instr.indexAt t x' ix') c E := by
  unfold opIndexAddr at h
  split at h
  · rename_i el i off len cap hu
    cases hx with | slice _ _ _ _ o' cap' k hk hl ho hc hb => ?_
    split at h
    · rename_i kk n hk2 hs
      obtain ⟨kd, ii, rfl, g1, g2, rfl⟩ := inside_spec hix hk2
      have ho' : o' = k.base + off := by
        rcases ho with ho | ho
        · exact ho
        · omega
      refine pureE_does hI h (v' := .pointer (some ⟨k.a, k.base + (off + ii.toNat * n), none⟩)) (VR.ptr i _ k hk) ?_ c
      have hcond : 0 ≤ ii ∧ ii < (len : Int) := ⟨g1, g2⟩
      simp [Instr.indexAt, asIntOf, run_underlying hu, hcond, run_size hs, Addr.add_lit, ho', Nat.add_assoc]
    · cases h
  · rename_i len el i off hu
    cases hx with | ptr _ _ k hk => ?_
    split at h
    · rename_i kk n hk2 hs
      obtain ⟨kd, ii, rfl, g1, g2, rfl⟩ := inside_spec hix hk2
      refine pureE_does hI h (v' := .pointer (some ⟨k.a, k.base + (off + ii.toNat * n), none⟩)) (VR.ptr i _ k hk) ?_ c
      have hcond : 0 ≤ ii ∧ ii < (len : Int) := ⟨g1, g2⟩
      simp [Instr.indexAt, asIntOf, run_underlying hu, Instr.sureAddr, hcond, run_size hs, Addr.add_lit, Nat.add_assoc]
    · cases h
  · cases h

theorem opIndex_does (hI : Inv P w0 ρ H w) {e : Operand → Value} {o : Oper} {t : TypeId} {x x' ix ix' : Value} (hx : VR ρ x x') (hix : VR ρ ix ix') {E : E} (h : opIndex P e o t x ix = some E) (c : Nat) :
    SemDoes P w0 ρ H w (Instr.index t x' ix') c E ∨ plainOp P e o = some E := by
  unfold opIndex at h
  split at h
  · rename_i len el cs hu
    obtain ⟨ys, rfl, hc⟩ := VR.agg_iff.1 hx
    left
    split at h
    · rename_i kk n hk2 hs
      obtain ⟨kd, ii, rfl, g1, g2, rfl⟩ := inside_spec hix hk2
      split at h
      · rename_i v hv
        obtain ⟨v', hr, hvr⟩ := partV_does (P := P) (w := w) hc hv
        refine pureE_does hI h hvr ?_ c
        have hcond : 0 ≤ ii ∧ ii < (len : Int) := ⟨g1, g2⟩
        simp [Instr.index, asIntOf, run_underlying hu, hcond, run_size hs, hr]
      · cases h
    · cases h
  · exact .inr h
end
end Go.Proofs.YtbnmjdmbdoehlaaGreatDoor.Ev
