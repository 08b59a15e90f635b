/- What the evaluator's operations come to in the machine: append, copy. -/
import Derived.Test.YtbnmjdmbdoehlaaGreatDoorEd
namespace Go.Proofs.YtbnmjdmbdoehlaaGreatDoor.Ev
open Go Go.RowKit

section
variable {P : Program} {w0 : World} {ρ : Ren} {H : G} {w : World}

theorem growBy_le (n : Nat) : ∀ (r c : Nat), c ≤ 2 * n + 200 → Builtin.growBy n r c ≤ 2 * n + 200
  | 0, c, h => h
  | r + 1, c, h => by
    show (if c ≥ n then c else Builtin.growBy n r (c + (c + 768) / 4)) ≤ _
    split
    · exact h
    · exact growBy_le n r _ (by omega)
theorem nextslicecap_le {n c : Nat} (h : c < n) : Builtin.nextslicecap n c ≤ 2 * n + 200 := by
  unfold Builtin.nextslicecap
  split
  · omega
  · split
    · omega
    · exact growBy_le n 4 c (by omega)

/-- A slice's cells, looked at. -/
theorem loadSlice (hI : Inv P w0 ρ H w) {i off n size o' cap' : Nat} {l : List Value} (h : loadN H i off (n * size) = some l) {k : Blk} (hk : ρ i = some k) (hn : n ≤ cap') (ho : o' = k.base + off ∨ cap' = 0) :
    ∃ l', LR ρ l l' ∧ (loadCells ⟨k.a, o', none⟩ (n * size)).run P w = .ok l'.toArray w := by
  obtain ⟨l', h1, h2, h3⟩ := loadN_cells hI h hk
  rcases ho with rfl | h0
  · exact ⟨l', h1, loadCells_of h2 h3⟩
  · obtain rfl : n = 0 := by omega
    rw [Nat.zero_mul] at h2 ⊢
    obtain rfl : l' = [] := List.length_eq_zero_iff.1 h2
    exact ⟨[], h1, rfl⟩

theorem lr_bytes (l : List UInt8) : LR ρ (l.map fun c => Value.int .u8 c.toNat) (l.map fun c => Value.int .u8 c.toNat) := L2.refl fun v hv => by
  obtain ⟨c, _, rfl⟩ := List.mem_map.1 hv
  exact .int _ _

theorem srcCells_spec (hI : Inv P w0 ρ H w) {size n : Nat} {x x' : Value} (hx : VR ρ x x') {cells : List Value} {rd : List Nat} (h : srcCells H size x = some (n, cells, rd)) :
    (∀ w, (Builtin.lenOf x').run P w = .ok n w) ∧ ∃ cells', LR ρ cells cells' ∧ (Builtin.firstCells size n x').run P w = .ok cells'.toArray w := by
  unfold srcCells at h
  split at h
  · rename_i m cap
    cases hx
    cases hb : Nat.beq m 0 with
    | false => rw [hb] at h; cases h
    | true =>
      rw [hb] at h
      cases h
      obtain rfl : m = 0 := by simpa using hb
      exact ⟨fun _ => rfl, [], .nil, rfl⟩
  · rename_i i off m cap
    cases hx with | slice _ _ _ _ o' cap' k hk hl ho hc hb => ?_
    split at h
    · rename_i l hl2
      cases h
      obtain ⟨l', h1, h2⟩ := loadSlice hI hl2 hk hl ho
      exact ⟨fun _ => rfl, l', h1, h2⟩
    · cases h
  · rename_i b
    cases hx
    cases h
    refine ⟨fun _ => rfl, _, lr_bytes _, ?_⟩
    show (Pure.pure _ : Sem (Array Value)).run P w = _
    rw [Sem.run_pure]
    congr 1
    simp
    rw [← Array.toList_map]
  · cases h

theorem nonInt_spec {t : TypeId} (h : nonInt P t = true) : ∃ d, P.underlying t = some d ∧ (match d with | .int _ => true | _ => false) = false := by
  unfold nonInt at h
  split at h
  · cases h
  · rename_i d hn hd
    refine ⟨d, hd, ?_⟩
    cases d <;> first | rfl | exact absurd rfl (hn _)
  · cases h

/-- Append, where there is room. -/
theorem append_room {ats : Array TypeId} {ty t u el : TypeId} {n len cap : Nat} {inf : TypeInfo} {x' : Value} (ht : ats[0]? = some t) (hu : ats[1]? = some u) (hut : P.underlying t = some (.slice el)) (hni : nonInt P u = true) (hi : P.info? el = some inf)
    (hlen : (Builtin.lenOf x').run P w = .ok n w) {base : Option Addr} (hroom : len + n ≤ cap) {new : Array Value} (hnew : (Builtin.firstCells inf.size n x').run P w = .ok new w) :
    (Builtin.append_ ats ty #[.slice base len cap, x']).run P w = (match base with | some a => (storeCells (a.add (len * inf.size)) new.toList).run P w | none => .ok () w).andThen fun _ w' => .ok (.slice base (len + n) cap) w' := by
  obtain ⟨d, hd, hz⟩ := nonInt_spec hni
  have hs := sizeT_info hi
  cases base with
  | none =>
    cases d <;> first
      | (exfalso; simp at hz; done)
      | (simp only [Builtin.append_, ht, hu, List.getElem?_toArray, List.getElem?_cons_zero, List.getElem?_cons_succ, Sem.run_bind, run_underlying hut, run_underlying hd, Result.andThen_ok, run_size hs, hlen, Sem.run_pure, Bool.false_eq_true, if_false, Bool.not_false, if_true, if_pos hroom, hnew]
         done)
  | some a =>
    cases d <;> first
      | (exfalso; simp at hz; done)
      | (simp only [Builtin.append_, ht, hu, List.getElem?_toArray, List.getElem?_cons_zero, List.getElem?_cons_succ, Sem.run_bind, run_underlying hut, run_underlying hd, Result.andThen_ok, run_size hs, hlen, Sem.run_pure, Bool.false_eq_true, if_false, Bool.not_false, if_true, if_pos hroom, hnew]
         done)

theorem i64_max : IntKind.i64.max = 9223372036854775807 := by decide

/-- Append, where there is none. -/
theorem append_new {ats : Array TypeId} {ty t u el : TypeId} {n len cap : Nat} {inf : TypeInfo} {z x' : Value} (ht : ats[0]? = some t) (hu : ats[1]? = some u) (hut : P.underlying t = some (.slice el)) (hni : nonInt P u = true) (hi : P.info? el = some inf) (hz : zeroOf P el = some z)
    (hlen : (Builtin.lenOf x').run P w = .ok n w) {base : Option Addr} (hroom : ¬ (len + n ≤ cap)) (hlim : (2 * (len + n) + 1000) * (inf.bytes + 1) ≤ lim) {old new : Array Value}
    (hold : (Builtin.firstCells inf.size len (.slice base len cap)).run P { w with drawn := w.drawn + 1 } = .ok old { w with drawn := w.drawn + 1 })
    (hnew : (Builtin.firstCells inf.size n x').run P { w with drawn := w.drawn + 1 } = .ok new { w with drawn := w.drawn + 1 }) :
    ∃ nc, len + n ≤ nc ∧ (Builtin.append_ ats ty #[.slice base len cap, x']).run P w = .ok (.slice (some ⟨w.heap.size, 0, none⟩) (len + n) nc) ({ w with drawn := w.drawn + 1 }.alloc (.cells (old ++ new ++ Builtin.zeroCells z.cells (nc - (len + n))) el)) := by
  obtain ⟨d, hd, hz'⟩ := nonInt_spec hni
  have hs := sizeT_info hi
  obtain ⟨hr, _⟩ := zero_run hz
  have hcap := nextslicecap_le (n := len + n) (c := cap) (by omega)
  have h1 : Builtin.nextslicecap (len + n) cap * inf.bytes ≤ lim := by
    refine Nat.le_trans (Nat.mul_le_mul hcap (Nat.le_refl _)) (Nat.le_trans ?_ hlim)
    exact Nat.mul_le_mul (by omega) (by omega)
  have h2 : ¬ (Builtin.nextslicecap (len + n) cap * inf.bytes > 2 ^ 48) := by unfold lim at h1; omega
  have h3 : len + n ≤ lim := by
    refine Nat.le_trans ?_ hlim
    have := Nat.le_mul_of_pos_right (2 * (len + n) + 1000) (show 0 < inf.bytes + 1 by omega)
    omega
  have h4 : ¬ (((len + n : Nat) : Int) > IntKind.i64.max ∧ (False ∨ inf.bytes = 0)) := by
    rw [i64_max]; unfold lim at h3; omega
  refine ⟨len + n + w.tape w.drawn (.appendCap (len + n) cap el) % (2 ^ 63 - (len + n)), by omega, ?_⟩
  have hforce : (Question.appendCap (len + n) cap el).forced = false := rfl
  have hcut : (Question.appendCap (len + n) cap el).cut (w.tape w.drawn (.appendCap (len + n) cap el)) = len + n + w.tape w.drawn (.appendCap (len + n) cap el) % (2 ^ 63 - (len + n)) := rfl
  have hzr := hr { w with drawn := w.drawn + 1 }
  have hnr : ¬ ((len : Nat) + n ≤ cap) := hroom
  cases d <;> first
    | (exfalso; simp at hz'; done)
    | (simp only [Builtin.append_, ht, hu, List.getElem?_toArray, List.getElem?_cons_zero, List.getElem?_cons_succ, Sem.run_bind, run_underlying hut, run_underlying hd, Result.andThen_ok, run_size hs, hlen, Sem.run_pure, Bool.false_eq_true, if_false, Bool.not_false, if_true, if_neg hnr, run_info hi, if_neg h2, if_neg h4, run_choose, hforce, hcut, run_askRoom, hold, hnew, hzr, newRow, run_newObj]
       rfl)

theorem zeroCells_size (z : Array Value) (n : Nat) : (Builtin.zeroCells z n).size = n * z.size := by simp [Builtin.zeroCells]

/-- Cells at the head of a new row. -/
theorem newHead (hI : Inv P w0 ρ H w) {c : Nat} (hc : ρ c = none) {el : TypeId} {size : Nat} (hz : sizeT P el = some size) {vs : List Value} {old new rest : Array Value} {nc : Nat} (hv : LR ρ vs (old.toList ++ new.toList)) (hn : (old ++ new ++ rest).size = nc * size) :
    Goes P w0 ρ c (c + 1) (ρ.put c ⟨w.heap.size, 0, nc * size, size⟩) (ap H [(c, some (.cells false el vs))]) (w.alloc (.cells (old ++ new ++ rest) el)) := by
  have hl := hv.length
  have := newRow_does hI hc hz (vs := vs) (cs := old ++ new ++ rest) false (by simp at hl ⊢; omega) (by
    rw [Array.toList_append, Array.toList_append, List.take_append_of_le_length (by simp at hl ⊢; omega), List.take_of_length_le (by simp at hl ⊢; omega)]
    exact hv) (fun h => by cases h)
  rw [hn] at this
  exact this

theorem opAppend_does (hI : Inv P w0 ρ H w) {ats : Array TypeId} {ty : TypeId} {s s' x x' : Value} (hs : VR ρ s s') (hx : VR ρ x x') {c : Nat} (hc : ρ c = none) {E : E} (h : opAppend P H c ats s x = some E) :
    SemDoes P w0 ρ H w (Builtin.append_ ats ty #[s', x']) c E := by
  unfold opAppend at h
  split at h
  · rename_i t u ht hu
    split at h
    · rename_i el hut
      split at h
      · rename_i inf z base len cap hi hz
        have hsz := sizeT_info hi
        obtain ⟨hr, hnz⟩ := zero_run hz
        split at h
        · rename_i n cells rd hsrc
          cases hb : nonInt P u && cells.all oneCell && Nat.beq cells.length (n * inf.size) && Nat.ble ((2 * (len + n) + 1000) * (inf.bytes + 1)) lim && Nat.beq z.cells.size inf.size with
          | false => rw [hb] at h; cases h
          | true =>
            rw [hb] at h
            dsimp only [cond_true] at h
            simp only [Bool.and_eq_true, Nat.ble_eq] at hb
            obtain ⟨⟨⟨⟨hni, h1⟩, hlen⟩, hlim⟩, hzs⟩ := hb
            have hlen : cells.length = n * inf.size := by simpa using hlen
            have hzs : z.cells.size = inf.size := by simpa using hzs
            have h1 := all_oneCell h1
            obtain ⟨hln, cells', hlr, hfc⟩ := srcCells_spec hI hx hsrc
            obtain ⟨_, cells2, hlr2, hfc2⟩ := srcCells_spec (hI.drew (w.drawn + 1)) hx hsrc
            have hlen' : cells'.length = n * inf.size := by rw [← hlr.length]; exact hlen
            have hlen2 : cells2.length = n * inf.size := by rw [← hlr2.length]; exact hlen
            have tot : ∀ {nc lo : Nat} (old : Array Value), len + n ≤ nc → old.size = len * inf.size → (old ++ cells2.toArray ++ Builtin.zeroCells z.cells (nc - (len + n))).size = nc * inf.size := by
              intro nc lo old hnc hold
              simp only [Array.size_append, hold, zeroCells_size, hzs, List.size_toArray, hlen2]
              rw [← Nat.add_mul, ← Nat.add_mul]; congr 1; omega
            have hlimn : len + n < big := by
              have := Nat.le_mul_of_pos_right (2 * (len + n) + 1000) (show 0 < inf.bytes + 1 by omega)
              unfold lim at hlim; unfold big; omega
            cases hr2 : Nat.ble (len + n) (capLo cap) with
            | true =>
              rw [hr2] at h
              dsimp only [cond_true] at h
              have hroom : len + n ≤ capLo cap := Nat.le_of_ble_eq_true hr2
              split at h
              · rename_i i off
                cases hs with | slice _ _ _ _ o' cap' k hk hl ho hcr hbb => ?_
                have hroom' : len + n ≤ cap' := Nat.le_trans hroom hcr.lo
                split at h
                · rename_i E1 hst
                  cases h
                  obtain ⟨w', hrun, hg, hv⟩ := storeE_does hI hst hlr h1 hk (o' := o' + len * inf.size) (fun hne => by
                    rcases ho with ho | ho
                    · omega
                    · exfalso; apply hne
                      have : n = 0 := by omega
                      subst this
                      exact List.length_eq_zero_iff.1 (by rw [hlen]; simp)) c
                  refine ⟨ρ, .slice (some ⟨k.a, o', none⟩) (len + n) cap', w', ?_, hg, ?_⟩
                  · rw [append_room ht hu hut hni hi (hln w) hroom' hfc]
                    simp only [Addr.add_lit]
                    rw [hrun]; rfl
                  · show VR ρ E1.v _
                    rw [hv]
                    exact VR.slice i off _ _ o' cap' k hk hroom' ho hcr hbb
                · cases h
              · cases hs
                cases hb0 : Nat.beq n 0 with
                | false => rw [hb0] at h; cases h
                | true =>
                  rw [hb0] at h
                  cases h
                  obtain rfl : n = 0 := by simpa using hb0
                  have hle : capLo cap ≤ cap := capLo_le cap
                  refine ⟨ρ, .slice none len cap, w, ?_, hI.same c, .sliceNil _ _⟩
                  rw [append_room ht hu hut hni hi (hln w) (by omega) hfc]
                  rfl
              · cases h
            | false =>
              rw [hr2] at h
              dsimp only [cond_false] at h
              have hroom : ¬ (len + n ≤ capLo cap) := fun hh => by rw [Nat.ble_eq_true_of_le hh] at hr2; cases hr2
              have hcx : cap < big → capLo cap = cap := capLo_lt
              split at h
              · cases hs
                cases hb0 : Nat.beq len 0 && Nat.blt cap big with
                | false => rw [hb0] at h; cases h
                | true =>
                  rw [hb0] at h
                  cases h
                  simp only [Bool.and_eq_true, Nat.blt_eq] at hb0
                  obtain ⟨hl0, hcb⟩ := hb0
                  obtain rfl : len = 0 := by simpa using hl0
                  have hnr : ¬ (0 + n ≤ cap) := by rw [hcx hcb] at hroom; exact hroom
                  obtain ⟨nc, hnc, hrun⟩ := append_new (ty := ty) ht hu hut hni hi hz (hln w) (base := none) hnr hlim (old := #[]) rfl hfc2
                  have hg := newHead (hI.drew (w.drawn + 1)) hc hsz (vs := cells) (old := #[]) (new := cells2.toArray) (rest := Builtin.zeroCells z.cells (nc - (0 + n))) (nc := nc) (by simpa using hlr2) (tot (lo := 0) #[] hnc (by simp))
                  refine ⟨_, _, _, hrun, hg, VR.slice c 0 _ _ 0 nc _ (Ren.put_same _ _ _) hnc (.inl rfl) ⟨fun hh => by omega, fun hh => by omega⟩ (fun _ => .inr (by simp))⟩
              · rename_i i off
                cases hs with | slice _ _ _ _ o' cap' k hk hl ho hcr hbb => ?_
                split at h
                · rename_i f t' vs hblk
                  split at h
                  · rename_i old hold
                    have grows : ¬ (len + n ≤ cap') → ∃ nc old', len + n ≤ nc ∧ LR ρ old old' ∧ old'.length = len * inf.size ∧ (Builtin.append_ ats ty #[.slice (some ⟨k.a, o', none⟩) len cap', x']).run P w = .ok (.slice (some ⟨w.heap.size, 0, none⟩) (len + n) nc) ({ w with drawn := w.drawn + 1 }.alloc (.cells (old'.toArray ++ cells2.toArray ++ Builtin.zeroCells z.cells (nc - (len + n))) el)) := by
                      intro hnr
                      obtain ⟨old', hlo, hro⟩ := loadSlice (hI.drew (w.drawn + 1)) hold hk hl ho
                      obtain ⟨nc, hnc, hrun⟩ := append_new (ty := ty) ht hu hut hni hi hz (hln w) (base := some ⟨k.a, o', none⟩) hnr hlim hro hfc2
                      obtain ⟨_, _, _, _, _, hol⟩ := loadN_spec hold
                      exact ⟨nc, old', hnc, hlo, by rw [← hlo.length]; exact hol, hrun⟩
                    cases hcb : Nat.blt cap big with
                    | true =>
                      rw [hcb] at h
                      cases h
                      have hcb : cap < big := blt_lt hcb
                      have hnr : ¬ (len + n ≤ cap') := by rw [hcr.1 hcb]; rw [hcx hcb] at hroom; exact hroom
                      obtain ⟨nc, old', hnc, hlo, hol, hrun⟩ := grows hnr
                      have hg := newHead (hI.drew (w.drawn + 1)) hc hsz (vs := old ++ cells) (old := old'.toArray) (new := cells2.toArray) (rest := Builtin.zeroCells z.cells (nc - (len + n))) (nc := nc) (by simpa using hlo.append hlr2) (tot (lo := 0) _ hnc (by simpa using hol))
                      exact ⟨_, _, _, hrun, hg, VR.slice c 0 _ _ 0 nc _ (Ren.put_same _ _ _) hnc (.inl rfl) ⟨fun hh => by omega, fun hh => by omega⟩ (fun _ => .inr (by simp))⟩
                    | false =>
                      rw [hcb] at h
                      dsimp only [cond_false] at h
                      have hcb : big ≤ cap := by
                        by_cases e : cap < big
                        · rw [lt_blt e] at hcb; cases hcb
                        · omega
                      cases hte : Nat.beq t' el with
                      | false => rw [hte] at h; cases h
                      | true =>
                        rw [hte] at h
                        cases h
                        obtain rfl : t' = el := by simpa using hte
                        by_cases hin : len + n ≤ cap'
                        · -- in place
                          have hne : cap' ≠ 0 := by intro e; rw [e] at hin; exact hroom (by omega)
                          have ho' : o' = k.base + off := ho.resolve_right hne
                          obtain ⟨cur, fr, hbk, hzk, hnk, hbb', hvk, hfrk, hfixk⟩ := hI.cells hblk hk
                          have hzz : k.z = inf.size := Option.some.inj (hzk.symm.trans hsz)
                          rw [← hzz] at hsz hold hlen hlen' hlen2
                          have hfit := (hbb hcb).resolve_left hne
                          obtain ⟨f2, e2, vs2, hbl2, hold2, hol⟩ := loadN_spec hold
                          rw [hblk] at hbl2
                          cases hbl2
                          have hmul : len * k.z + n * k.z ≤ cap' * k.z := by rw [← Nat.add_mul]; exact Nat.mul_le_mul_right _ hin
                          have h1' : ∀ y ∈ cells', y.oneCell' = true := by
                            intro y hy
                            obtain ⟨j, hj⟩ := List.getElem?_of_mem hy
                            obtain ⟨a, ha, hr3⟩ := hlr.get' hj
                            rw [hr3.oneCell]; exact h1 a (List.mem_of_getElem? ha)
                          have hfit2 : o' + len * k.z + 0 + cells'.length ≤ cur.size := by omega
                          have hst := storeCells_run (P := P) k.a (o' + len * k.z) t' fr cells' 0 cur w hbk hfit2 hfrk h1'
                          have hor : OR P ρ ⟨k.a, o', k.n, k.z⟩ (.cells false t' (old ++ cells)) (.cells (overw cur (o' + len * k.z + 0) cells') t' fr) := by
                            refine .cells false t' _ _ fr hsz (by rw [overw_size]; exact hnk) ?_ (lr_of ?_ fun j y hj => ?_) (by rw [overw_size]; exact hfrk) (fun hf => by cases hf)
                            · rw [overw_size]; simp only [List.length_append, hol, hlen]; omega
                            · rw [overw_size]; simp only [List.length_append, hol, hlen]; omega
                            · show ∃ y', (overw cur (o' + len * k.z + 0) cells')[o' + j]? = some y' ∧ VR ρ y y'
                              rw [overw_get _ _ _ hfit2]
                              by_cases hj1 : j < len * k.z
                              · rw [if_neg (by omega)]
                                rw [List.getElem?_append_left (by omega)] at hj
                                subst hold2
                                rw [take_drop_get hj1] at hj
                                obtain ⟨y', hy', hr3⟩ := lr_get hvk hj
                                exact ⟨y', by rw [ho', Nat.add_assoc]; exact hy', hr3⟩
                              · rw [List.getElem?_append_right (by omega), hol] at hj
                                have hj2 : j - len * k.z < cells.length := (List.getElem?_eq_some_iff.1 hj).1
                                rw [if_pos (by rw [← hlr.length]; omega)]
                                obtain ⟨y', hy', hr3⟩ := hlr.get hj
                                exact ⟨y', by rw [show o' + j - (o' + len * k.z + 0) = j - len * k.z by omega]; exact hy', hr3⟩
                          have hg := hI.again (k2 := ⟨k.a, o', k.n, k.z⟩) hblk hk hc rfl (hor.mono (Ren.le_put hc))
                          refine ⟨_, .slice (some ⟨k.a, o', none⟩) (len + n) cap', _, ?_, hg, ?_⟩
                          · rw [append_room ht hu hut hni hi (hln w) hin hfc]
                            simp only [Addr.add_lit, ← hzz]
                            rw [hst]; rfl
                          · exact VR.slice c 0 _ _ o' cap' ⟨k.a, o', k.n, k.z⟩ (Ren.put_same _ _ _) hin (.inl (by simp)) ⟨fun hh => by omega, fun hh => by omega⟩ (fun _ => .inr hfit)
                        · obtain ⟨nc, old', hnc, hlo, hol, hrun⟩ := grows hin
                          have hg := newHead ((hI.drew (w.drawn + 1)).kill i) hc hsz (vs := old ++ cells) (old := old'.toArray) (new := cells2.toArray) (rest := Builtin.zeroCells z.cells (nc - (len + n))) (nc := nc) (by simpa using hlo.append hlr2) (tot (lo := 0) _ hnc (by simpa using hol))
                          exact ⟨_, _, _, hrun, hg, VR.slice c 0 _ _ 0 nc _ (Ren.put_same _ _ _) hnc (.inl rfl) ⟨fun hh => by omega, fun hh => by omega⟩ (fun _ => .inr (by simp))⟩
                  · cases h
                · cases h
              · cases h
        · cases h
      · cases h
    · cases h
  · cases h
end
end Go.Proofs.YtbnmjdmbdoehlaaGreatDoor.Ev
