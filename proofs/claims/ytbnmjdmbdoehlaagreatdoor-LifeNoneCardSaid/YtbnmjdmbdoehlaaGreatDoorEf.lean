/- What the evaluator's operations come to in the machine: the same or not, conversions, what a value holds. -/
import Derived.Test.YtbnmjdmbdoehlaaGreatDoorEe
import Derived.Laws.IdiomStrings
namespace Go.Proofs.YtbnmjdmbdoehlaaGreatDoor.Ev
open Go Go.RowKit

section
variable {P : Program} {w0 : World} {ρ : Ren} {H : G} {w : World}

theorem equal_unfold (t : TypeId) (x y : Value) : Op.equal t x y = Op.equalIn (9999 + 1) t x y := rfl

theorem eqV_does (hI : Inv P w0 ρ H w) {t : TypeId} {x x' y y' : Value} (hx : VR ρ x x') (hy : VR ρ y y') {b : Bool} {rd : List Nat} (h : eqV P H t x y = some (b, rd)) :
    (Op.equal t x' y').run P w = .ok b w ∧ ∀ op xo yo, (eqGuard op t xo yo x' y').run P w = .ok () w := by
  unfold eqV at h
  split at h
  · rename_i i o j q
    cases hx with | ptr _ _ k hk => ?_
    cases hy with | ptr _ _ k2 hk2 => ?_
    refine ⟨?_, fun op xo yo => by cases op <;> simp [eqGuard]⟩
    split at h
    · rename_i el hu
      split at h
      · rename_i n hs
        cases hij : Nat.beq i j with
        | true =>
          rw [hij] at h
          obtain rfl := beq_eq hij
          rw [hk] at hk2; cases hk2
          cases h
          rw [equal_unfold]
          generalize 9999 = d
          simp only [Op.equalIn, Sem.run_bind, run_underlying hu, Result.andThen_ok, run_size hs]
          have e : ((⟨k.a, k.base + o, none⟩ : Addr) == ⟨k.a, k.base + q, none⟩) = Nat.beq o q := by
            cases hoq : Nat.beq o q with
            | true => obtain rfl := beq_eq hoq; simp
            | false =>
              have hne : o ≠ q := by intro e; subst e; simp at hoq
              simp; omega
          simp [sameAddr, e]
        | false =>
          rw [hij] at h
          dsimp only [cond_false] at h
          have hne : i ≠ j := by intro e; subst e; simp at hij
          split at h
          · rename_i t1 vs1 t2 vs2 h1 h2
            cases h
            obtain ⟨c1, fr1, hb1, _, _, _, _, _, hf1⟩ := hI.cells h1 hk
            obtain ⟨c2, fr2, hb2, _, _, _, _, _, hf2⟩ := hI.cells h2 hk2
            obtain ⟨_, _, rfl⟩ := hf1 rfl
            obtain ⟨_, _, rfl⟩ := hf2 rfl
            have hab : k.a ≠ k2.a := fun e => hne (hI.inj i j _ _ k k2 h1 h2 hk hk2 e)
            rw [equal_unfold]
            generalize 9999 = d
            simp only [Op.equalIn, Sem.run_bind, run_underlying hu, Result.andThen_ok, run_size hs]
            simp [sameAddr, hab, World.frozen?, World.shape?, hb1, hb2, noView, viewAt, mayBeOne, stringish]
          · cases h
      · cases h
    · cases h
  · rename_i a
    cases hx with | ptr _ _ k hk => ?_
    cases hy
    refine ⟨?_, fun op xo yo => by cases op <;> simp [eqGuard]⟩
    split at h
    · rename_i el hu
      cases h
      rw [equal_unfold]
      generalize 9999 = d
      simp [Op.equalIn, run_underlying hu]
    · cases h
  · rename_i a
    cases hy with | ptr _ _ k hk => ?_
    cases hx
    refine ⟨?_, fun op xo yo => by cases op <;> simp [eqGuard]⟩
    split at h
    · rename_i el hu
      cases h
      rw [equal_unfold]
      generalize 9999 = d
      simp [Op.equalIn, run_underlying hu]
    · cases h
  · cases hx with | slice _ _ _ _ o' cap' k hk hl ho hc hb => ?_
    cases hy
    refine ⟨?_, fun op xo yo => by cases op <;> simp [eqGuard]⟩
    split at h
    · rename_i el hu
      cases h
      rw [equal_unfold]
      generalize 9999 = d
      simp [Op.equalIn, run_underlying hu]
    · cases h
  · cases hx with | map _ k hk => ?_
    cases hy
    refine ⟨?_, fun op xo yo => by cases op <;> simp [eqGuard]⟩
    split at h
    · rename_i kt el hu
      cases h
      rw [equal_unfold]
      generalize 9999 = d
      simp [Op.equalIn, run_underlying hu]
    · cases h
  · obtain ⟨fn', fs', cs', rfl, _⟩ := VR.func_iff.1 hx
    cases hy
    refine ⟨?_, fun op xo yo => by cases op <;> simp [eqGuard]⟩
    split at h
    · rename_i hu
      cases h
      rw [equal_unfold]
      generalize 9999 = d
      simp [Op.equalIn, run_underlying hu]
    · cases h
  · cases hx with | iface _ _ v' hv => ?_
    cases hy
    refine ⟨?_, fun op xo yo => by cases op <;> simp [eqGuard]⟩
    split at h
    · rename_i ms hu
      cases h
      rw [equal_unfold]
      generalize 9999 = d
      simp [Op.equalIn, run_underlying hu]
    · cases h
  · cases h

theorem addr_not_plain {x y : Value} {b : Bool} {rd : List Nat} {t : TypeId} (h : eqV P H t x y = some (b, rd)) {x' y' : Value} (hx : VR ρ x x') (hy : VR ρ y y') :
    (∀ w, (binOp .eql t x' y').run P w = ((Op.equal t x' y').run P w).andThen fun b w => .ok (.bool b) w) ∧ (∀ w, (binOp .neq t x' y').run P w = ((Op.equal t x' y').run P w).andThen fun b w => .ok (.bool (!b)) w) := by
  unfold eqV at h
  split at h
  · cases hx; cases hy; exact ⟨fun w => by simp [binOp], fun w => by simp [binOp]⟩
  · cases hx; cases hy; exact ⟨fun w => by simp [binOp], fun w => by simp [binOp]⟩
  · cases hx; cases hy; exact ⟨fun w => by simp [binOp], fun w => by simp [binOp]⟩
  · cases hx; cases hy; exact ⟨fun w => by simp [binOp], fun w => by simp [binOp]⟩
  · cases hx; cases hy; exact ⟨fun w => by simp [binOp], fun w => by simp [binOp]⟩
  · obtain ⟨fn', fs', cs', rfl, _⟩ := VR.func_iff.1 hx
    cases hy; exact ⟨fun w => by simp [binOp], fun w => by simp [binOp]⟩
  · cases hx; cases hy; exact ⟨fun w => by simp [binOp], fun w => by simp [binOp]⟩
  · cases h

theorem opBin_does (hI : Inv P w0 ρ H w) {e : Operand → Value} {o : Oper} {op : BinOp} {t : TypeId} {x x' y y' : Value} (hx : VR ρ x x') (hy : VR ρ y y') {E : E} (h : opBin P e H o op t x y = some E) (xo yo : Operand) (c : Nat) :
    SemDoes P w0 ρ H w (do eqGuard op t xo yo x' y'; binOp op t x' y') c E ∨ plainOp P e o = some E := by
  unfold opBin at h
  cases hp : noAddr x && noAddr y with
  | true => rw [hp] at h; exact .inr h
  | false =>
    rw [hp] at h
    dsimp only [cond_false] at h
    left
    split at h
    · split at h
      · rename_i b rd he
        cases h
        obtain ⟨h1, h2⟩ := eqV_does hI hx hy he
        obtain ⟨h3, _⟩ := addr_not_plain he hx hy
        exact ⟨ρ, .bool b, w, by simp [h2, h3, h1], hI.same c, .bool b⟩
      · cases h
    · split at h
      · rename_i b rd he
        cases h
        obtain ⟨h1, h2⟩ := eqV_does hI hx hy he
        obtain ⟨_, h3⟩ := addr_not_plain he hx hy
        exact ⟨ρ, .bool (!b), w, by simp [h2, h3, h1], hI.same c, .bool _⟩
      · cases h
    · cases h

/- Conversions. -/
theorem bytesOf_spec : ∀ {l : List Value} {bs : List UInt8}, bytesOf l = some bs → ∃ ns : List Int, l = ns.map (Value.int .u8) ∧ bs = ns.map (fun n => UInt8.ofNat n.toNat)
  | [], bs, h => by simp [bytesOf] at h; subst h; exact ⟨[], rfl, rfl⟩
  | v :: l, bs, h => by
    unfold bytesOf at h
    split at h
    · rename_i heq; cases heq
    · rename_i n r heq
      cases heq
      split at h
      · rename_i l' hl
        cases h
        obtain ⟨ns, rfl, rfl⟩ := bytesOf_spec hl
        exact ⟨n :: ns, rfl, rfl⟩
      · cases h
    · cases h

theorem foldl_push : ∀ (ns : List Int) (r : ByteArray), ns.foldl (fun r n => r.push (UInt8.ofNat n.toNat)) r = ⟨r.data ++ (ns.map fun n => UInt8.ofNat n.toNat).toArray⟩
  | [], r => by simp
  | n :: ns, r => by
    simp only [List.foldl_cons]
    rw [foldl_push ns]
    simp [ByteArray.push]

theorem freeze_putObj {g n : Nat} {c : Array Value} {e : TypeId} {fr : Nat × Nat} (h : w.heap[g]? = some (.cells c e fr)) : w.freeze ⟨g, n, none⟩ 1 = w.putObj g (.cells c e (if fr.1 == fr.2 then (n, n + 1) else (min fr.1 n, max fr.2 (n + 1)))) := by
  unfold World.freeze World.putObj
  rw [if_neg (by decide)]
  congr 1
  apply Array.ext_getElem?
  intro j
  rw [Array.getElem?_modify]
  by_cases e' : g = j
  · subst e'
    rw [if_pos rfl, Array.getElem?_setIfInBounds_self_of_lt (Array.getElem?_eq_some_iff.1 h).1, h]
    obtain ⟨lo, hi⟩ := fr
    rfl
  · rw [if_neg e', Array.getElem?_setIfInBounds_ne e']

theorem opConvert_does (hI : Inv P w0 ρ H w) {e : Operand → Value} {o : Oper} {src dst : TypeId} {x x' : Value} (hx : VR ρ x x') {c : Nat} (hc : ρ c = none) {E : E} (h : opConvert P e H c o src dst x = some E) :
    SemDoes P w0 ρ H w (convert src dst x') c E ∨ plainOp P e o = some E := by
  unfold opConvert at h
  split at h
  · rename_i i off len cap
    left
    cases hx with | slice _ _ _ _ o' cap' k hk hl ho hcr hbb => ?_
    split at h
    · rename_i el hs hd
      split at h
      · rename_i he
        split at h
        · rename_i l hld
          split at h
          · rename_i bs hbs
            cases h
            obtain ⟨ns, rfl, rfl⟩ := bytesOf_spec hbs
            obtain ⟨l', h1, h2⟩ := loadSlice hI (size := 1) (by rw [Nat.mul_one]; exact hld) hk hl ho
            have : l' = ns.map (Value.int .u8) := LR.eq h1 (by intro v hv; obtain ⟨n, _, rfl⟩ := List.mem_map.1 hv; rfl)
            subst this
            rw [Nat.mul_one] at h2
            refine ⟨ρ, _, w, ?_, hI.same c, VR.string _⟩
            simp only [convert, Sem.run_bind, run_underlying hs, run_underlying hd, Result.andThen_ok, run_underlying he]
            rw [run_bytesToString w _ len cap' ns h2, foldl_push]
            have he0 : ByteArray.empty.data = #[] := rfl
            rw [he0]
            simp
          · cases h
        · cases h
      · cases h
    · rename_i el0 el hs hd
      split at h
      · rename_i he
        cases hsd : Nat.beq src dst with
        | false => rw [hsd] at h; cases h
        | true =>
          rw [hsd] at h
          dsimp only [cond_true] at h
          obtain rfl := beq_eq hsd
          have hel := hs.symm.trans hd
          cases hel
          split at h
          · rename_i f t vs hb
            cases h
            obtain ⟨cur, fr, hbk, hz, hn, hle, hv, hfr, hfix⟩ := hI.cells hb hk
            have hor : OR P ρ k (.cells false t vs) (.cells cur t (if fr.1 == fr.2 then (cur.size, cur.size + 1) else (min fr.1 cur.size, max fr.2 (cur.size + 1)))) := by
              refine .cells false t vs cur _ hz hn hle hv ?_ (fun hf => by cases hf)
              rcases hfr with hfr | hfr
              · rw [if_pos (by simpa using hfr)]; exact .inr (Nat.le_refl _)
              · split
                · exact .inr (Nat.le_refl _)
                · exact .inr (by simp; omega)
            refine ⟨ρ, .slice (some ⟨k.a, o', none⟩) len cap', _, ?_, ⟨Ren.le_refl _, fun _ _ => rfl, hI.put hb hk hor⟩, VR.slice i off len cap o' cap' k hk hl ho hcr hbb⟩
            simp only [convert, Sem.run_bind, run_underlying hs, Result.andThen_ok, run_underlying he]
            simp [markStringish, World.shape?, hbk, freeze_putObj hbk]
          · cases h
      · cases h
    · cases h
  · rename_i b
    cases hx
    split at h
    · rename_i el hs hd
      left
      split at h
      · rename_i he hsz
        cases hbl : Nat.blt b.size lim with
        | false => rw [hbl] at h; cases h
        | true =>
          rw [hbl] at h
          cases h
          have hlt := blt_lt hbl
          have hcap : b.size ≤ grownCap w b.size 0 el := by unfold grownCap; exact Nat.le_add_right _ _
          have hsize : (bytesRow b (grownCap w b.size 0 el)).size = grownCap w b.size 0 el := by
            unfold bytesRow
            rw [Array.size_append, Array.size_map, Array.size_replicate]
            show b.data.size + (_ - b.size) = _
            have : b.data.size = b.size := rfl
            omega
          have hlen : (b.data.toList.map fun c => Value.int .u8 c.toNat).length = b.size := by simp
          have hg := (hI.drew (w.drawn + 1)).new (k := ⟨w.heap.size, 0, grownCap w b.size 0 el, 1⟩) hc rfl (o' := .cells (bytesRow b (grownCap w b.size 0 el)) el ((bytesRow b (grownCap w b.size 0 el)).size, (bytesRow b (grownCap w b.size 0 el)).size + 1))
            (OR.cells (P := P) (ρ := ρ.put c ⟨w.heap.size, 0, grownCap w b.size 0 el, 1⟩) (k := ⟨w.heap.size, 0, grownCap w b.size 0 el, 1⟩) false el (b.data.toList.map fun c => Value.int .u8 c.toNat) (bytesRow b (grownCap w b.size 0 el)) _ hsz hsize
              (by rw [hlen, hsize]; simpa using hcap)
              (by
                have e : ((bytesRow b (grownCap w b.size 0 el)).toList.drop 0).take (b.data.toList.map fun c => Value.int .u8 c.toNat).length = b.data.toList.map fun c => Value.int .u8 c.toNat := by
                  unfold bytesRow
                  rw [List.drop_zero, Array.toList_append, List.take_append_of_le_length (by simp), List.take_of_length_le (by simp)]
                  simp
                rw [e]; exact lr_bytes _)
              (.inr (Nat.le_refl _)) (fun hf => by cases hf))
          refine ⟨_, _, _, run_bytes_of_string w src dst el b hs hd he, hg, VR.slice c 0 _ _ 0 _ _ (Ren.put_same _ _ _) hcap (.inl rfl) ⟨fun hh => by omega, fun hh => by omega⟩ (fun _ => .inr (by simp))⟩
      · cases h
    · exact .inr h
  · exact .inr h

theorem opExtract_does (hI : Inv P w0 ρ H w) {x x' : Value} (hx : VR ρ x x') {i : Nat} {E : E} (h : opExtract x i = some E) (c : Nat) : SemDoes P w0 ρ H w (Instr.extract x' i) c E := by
  unfold opExtract at h
  split at h
  · rename_i vs
    obtain ⟨ys, rfl, hl⟩ := VR.tuple_iff.1 hx
    split at h
    · rename_i v hv
      obtain ⟨y, hy, hr⟩ := hl.get (j := i) (a := v) (by simpa using hv)
      refine pureE_does hI h hr ?_ c
      simp only [Array.getElem?_toList] at hy
      simp [Instr.extract, hy]
    · cases h
  · cases h

theorem vr_pair {a a' b b' : Value} (h : VR ρ a a') (k : VR ρ b b') : VR ρ (.tuple #[a, b]) (.tuple #[a', b']) := VR.tuple_iff.2 ⟨_, rfl, .cons h (.cons k .nil)⟩

theorem opTypeAssert_does (hI : Inv P w0 ρ H w) {x x' : Value} (hx : VR ρ x x') {xt asserted : TypeId} {ok : Bool} {E : E} (h : opTypeAssert P x asserted ok = some E) (c : Nat) : SemDoes P w0 ρ H w (Instr.typeAssert x' xt asserted ok) c E := by
  unfold opTypeAssert at h
  split at h
  · cases h
  · rename_i d hn hu
    have hd : ∀ ms, d ≠ .interface ms := fun ms e => hn ms (by rw [e])
    split at h
    · cases hx
      cases ok with
      | false => cases h
      | true =>
        dsimp only [cond_true] at h
        split at h
        · rename_i z hz
          obtain ⟨hr, hnz⟩ := zero_run hz
          refine pureE_does hI h (vr_pair (VR.refl z hnz) (.bool false)) ?_ c
          cases d <;> first
            | exact absurd rfl (hd _)
            | simp [Instr.typeAssert, run_underlying hu, hr]
        · cases h
    · rename_i t v
      cases hx with | iface _ _ v' hv => ?_
      cases hta : Nat.beq t asserted with
      | true =>
        rw [hta] at h
        dsimp only [cond_true] at h
        obtain rfl := beq_eq hta
        cases ok with
        | true =>
          refine pureE_does hI h (vr_pair hv (.bool true)) ?_ c
          cases d <;> first
            | exact absurd rfl (hd _)
            | simp [Instr.typeAssert, run_underlying hu]
        | false =>
          refine pureE_does hI h hv ?_ c
          cases d <;> first
            | exact absurd rfl (hd _)
            | simp [Instr.typeAssert, run_underlying hu]
      | false =>
        rw [hta] at h
        dsimp only [cond_false] at h
        have hne : t ≠ asserted := by intro e; subst e; simp at hta
        cases ok with
        | false => cases h
        | true =>
          dsimp only [cond_true] at h
          split at h
          · rename_i z hz
            obtain ⟨hr, hnz⟩ := zero_run hz
            refine pureE_does hI h (vr_pair (VR.refl z hnz) (.bool false)) ?_ c
            cases d <;> first
              | exact absurd rfl (hd _)
              | simp [Instr.typeAssert, run_underlying hu, hr, hne]
          · cases h
    · cases h
  · cases h
end
end Go.Proofs.YtbnmjdmbdoehlaaGreatDoor.Ev
