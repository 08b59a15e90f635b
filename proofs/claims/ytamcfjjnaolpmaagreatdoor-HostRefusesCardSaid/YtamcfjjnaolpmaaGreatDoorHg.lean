/- Add of package host, to a host without providers. -/
import Derived.Test.YtamcfjjnaolpmaaGreatDoorHd
namespace Go.Proofs.YtamcfjjnaolpmaaGreatDoor
open Go.RowKit
set_option maxRecDepth 100000

def pMap (name : ByteArray) (p : Nat) : DataW Value := .map [(.string name.data.toList, .held (.pointer (some ⟨p, 0, none⟩)))]
theorem pMap_at (name : ByteArray) (p : Nat) (zd : DataW Value) : (pMap name p).atKey (.string name.data.toList) zd = .held (.pointer (some ⟨p, 0, none⟩)) := by
  simp [pMap, DataW.atKey, Lit.sameKey]
theorem pMap_other {name other : ByteArray} (h : other.data.toList ≠ name.data.toList) (p : Nat) (zd : DataW Value) : (pMap name p).atKey (.string other.data.toList) zd = zd := by
  have h' : ¬ name.data = other.data := fun e => h (by rw [e])
  simp [pMap, DataW.atKey, Lit.sameKey, h']

def provObj (k q : Nat) (name : ByteArray) (pat : Int) : Obj := .cells #[.pointer (some ⟨k, 0, none⟩), .string name, .int .i64 pat, .pointer (some ⟨q, 0, none⟩), .pointer none] 94 (0, 0)

/-- A provider, nothing done for it, nothing waiting. -/
structure ProvAt (w : World) (p k q : Nat) (name : ByteArray) (lim wt st pat : Int) : Prop where
  cells : w.heap[p]? = some (provObj k q name pat)
  keep : KeepAt w k lim wt st
  queue : w.heap[q]? = some (.cells #[.slice none 0 0, .int .i64 8, .int .i64 0] 137 (0, 0))
  apart : k < q ∧ q < p

theorem wp_mapUpdate_own {H : Type} {P : Program} (w : World) {o : Oper} {a : Act} {K : Act → World → Prop} {Q : Exit → Act → World → Prop}
    (m x v : Operand) (t : TypeId) (hop : o.op = Op.mapUpdate t m x v)
    (k e : TypeId) (KK : Maps.Keyed P k) (ht : P.underlying t = some (.map k e)) (R : Value → Option (DataW H × List MemPlace)) (b n : Nat) (D : DataW H)
    (hm : a.eval m = .map (some b)) (hown : w.ownsMap P k R b n D) (hn : n < maxLen) (key val : Value) (kl : Lit) (hx : a.eval x = key) (hv : a.eval v = val) (hkey : keyOf P k key = some kl)
    (d : DataW H) (ps : List MemPlace) (hval : R val = some (d, ps))
    (hK : ∀ w', w'.ownsMap P k R b (n + 1) (D.put kl d) → w.grownBy w' (some b) → K (a.put o.dst undef) w') : o.wp P a w K Q := by
  obtain ⟨w', hrun, r1, r2⟩ := hown.update KK ht hn hkey hval
  unfold Oper.wp
  simp [execOp, hop, hm, hx, hv, hrun, Result.andThen]
  exact hK w' r1 r2

/-- What the map's new entry leaves. -/
theorem add_host {w w3 w4 w5 : World} {h m s sm g : Nat} {name : ByteArray} {lim wt pat : Int} (H : HostAt w h m s sm 0 (.map []) 0) (hx4 : Ext w w4) (hx34 : Ext w3 w4) (hz : w4.heap.size = w3.heap.size + 1) (hg : w.heap.size < g ∧ g < w3.heap.size) (hk : KeepAt w3 g lim wt 0)
    (hq : w4.heap[w3.heap.size]? = some (.cells #[.slice none 0 0, .int .i64 8, .int .i64 0] 137 (0, 0)))
    (hown : w5.ownsMap Tryz.prog 9 selfElem m (0 + 1) ((DataW.map []).put (.string name.data.toList) (.held (.pointer (some ⟨w4.heap.size, 0, none⟩)))))
    (hgrow : (w4.alloc (provObj g w3.heap.size name pat)).grownBy w5 (some m)) :
    HostAt w5 h m s sm 1 (pMap name w4.heap.size) 0 ∧ ProvAt w5 w4.heap.size g w3.heap.size name lim wt 0 pat ∧ w.grownBy w5 (some m) ∧ w4.heap.size < w5.heap.size := by
  have hs4 : (w4.alloc (provObj g w3.heap.size name pat)).heap.size = w4.heap.size + 1 := by simp
  have hsz := hgrow.size
  have hml := H.map.lt
  have hsl := (Array.getElem?_eq_some_iff.1 H.store).1
  have hhl := (Array.getElem?_eq_some_iff.1 H.cells).1
  have hal := H.apart
  have hle := hx4.size
  have keep : ∀ b, b < w4.heap.size → b ≠ m → w5.heap[b]? = w4.heap[b]? := fun b hb hm =>
    (hgrow.block b (by omega) (by simpa using hm)).trans (Below.heap_alloc _ _ _ hb)
  have hx := hx4
  refine ⟨⟨?_, hown, ?_, ?_, H.apart⟩, ⟨?_, ?_, ?_, ⟨hg.2, by omega⟩⟩, grown_trans (grown_ext (grown_refl _ _) (hx4.alloc (provObj g w3.heap.size name pat))) hgrow, by omega⟩
  · rw [keep h (by omega) (by omega)]; exact (hx.heap hhl).trans H.cells
  · rw [keep s (by omega) (by omega)]; exact (hx.heap hsl).trans H.store
  · obtain ⟨es, clock, hb, hrest⟩ := H.smap
    have hbl := (Array.getElem?_eq_some_iff.1 hb).1
    exact ⟨es, clock, (keep sm (by omega) (by omega)).trans ((hx.heap hbl).trans hb), hrest⟩
  · exact (hgrow.block _ (by omega) (by simp; omega)).trans (heap_new w4 _)
  · obtain ⟨p, hp⟩ := hk.ext hx34
    exact ⟨p, (keep g (by omega) (by omega)).trans hp⟩
  · exact (keep _ (by omega) (by omega)).trans hq

/-- What the start and its event leave. -/
theorem add_end {w w5 w7 w8 : World} {h m s sm g q p : Nat} {name : ByteArray} {lim wt pat : Int} (H : HostAt w5 h m s sm 1 (pMap name p) 0) (P : ProvAt w5 p g q name lim wt 0 pat) (hw : w.grownBy w5 (some m)) (hg : w.heap.size < g) (hh : h < w.heap.size)
    (h7 : (w5.alloc (runObj p h (.slice none 0 0))).grownBy w7 (some g)) (k7 : KeepAt w7 g lim wt 1) (h8 : w7.grownBy w8 (some w5.heap.size)) :
    HostAt w8 h m s sm 1 (pMap name p) 0 ∧ ProvAt w8 p g q name lim wt 1 pat ∧ w.grownBy w8 (some m) := by
  have hs6 : (w5.alloc (runObj p h (.slice none 0 0))).heap.size = w5.heap.size + 1 := by simp
  have hz7 := h7.size
  have hz8 := h8.size
  have hml := H.map.lt
  have hsl := (Array.getElem?_eq_some_iff.1 H.store).1
  have hhl := (Array.getElem?_eq_some_iff.1 H.cells).1
  have hpl := (Array.getElem?_eq_some_iff.1 P.cells).1
  have hal := H.apart
  have hpa := P.apart
  have hw1 := hw.size
  have keep : ∀ b, b < w5.heap.size → b ≠ g → w8.heap[b]? = w5.heap[b]? := fun b hb hn =>
    (h8.block b (by omega) (by simp; omega)).trans ((h7.block b (by omega) (by simpa using hn)).trans (Below.heap_alloc _ _ _ hb))
  obtain ⟨es, clock, hb, hrest⟩ := H.map
  obtain ⟨es2, clock2, hb2, hrest2⟩ := H.smap
  have hbl2 := (Array.getElem?_eq_some_iff.1 hb2).1
  have hql := (Array.getElem?_eq_some_iff.1 P.queue).1
  refine ⟨⟨(keep h hhl (by omega)).trans H.cells, ⟨es, clock, (keep m hml (by omega)).trans hb, hrest⟩, (keep s hsl (by omega)).trans H.store, ⟨es2, clock2, (keep sm hbl2 (by omega)).trans hb2, hrest2⟩, H.apart⟩,
    ⟨(keep p hpl (by omega)).trans P.cells, ?_, (keep q hql (by omega)).trans P.queue, P.apart⟩, ?_⟩
  · obtain ⟨pp, hp⟩ := k7
    exact ⟨pp, (h8.block g (Array.getElem?_eq_some_iff.1 hp).1 (by simp; omega)).trans hp⟩
  · refine ⟨h8.os.trans (h7.os.trans hw.os), h8.tape.trans (h7.tape.trans hw.tape), h8.output.trans (h7.output.trans hw.output), by omega, fun b hb hn => ?_⟩
    exact (keep b (by omega) (by omega)).trans (hw.block b hb hn)

theorem Slc.is {w : World} {size n : Nat} {v : Value} {xs : List Value} (h : Slc w size v n xs) : ∃ a c, v = .slice a n c := by
  obtain ⟨_, a, c, h, _⟩ := h
  exact ⟨a, c, h⟩
theorem run_out {w : World} {r p h : Nat} {v : Value} (hr : w.heap[r]? = some (runObj p h v)) : w.cell? ⟨r, 2, none⟩ = some v := by simp [World.cell?, hr, runObj]
theorem add_run {w5 w7 : World} {p g q h : Nat} {name : ByteArray} {lim wt st pat : Int} (h7 : (w5.alloc (runObj p h (.slice none 0 0))).grownBy w7 (some g)) (P : ProvAt w5 p g q name lim wt st pat) : w7.heap[w5.heap.size]? = some (runObj p h (.slice none 0 0)) := by
  have hpl := (Array.getElem?_eq_some_iff.1 P.cells).1
  have := P.apart
  exact (h7.block _ (by simp) (by simp; omega)).trans (heap_new w5 _)
theorem add_name {w5 w7 : World} {p g q h : Nat} {name : ByteArray} {lim wt st pat : Int} (h7 : (w5.alloc (runObj p h (.slice none 0 0))).grownBy w7 (some g)) (P : ProvAt w5 p g q name lim wt st pat) : w7.cell? ⟨p, 1, none⟩ = some (.string name) := by
  have hpl := (Array.getElem?_eq_some_iff.1 P.cells).1
  have := P.apart
  have e : w7.heap[p]? = some (provObj g q name pat) := (h7.block _ (by simp; omega) (by simp; omega)).trans ((Below.heap_alloc _ _ _ hpl).trans P.cells)
  simp [World.cell?, e, provObj]

set_option maxHeartbeats 1000000 in
theorem add_calls {w : World} {h m s sm : Nat} (H : HostAt w h m s sm 0 (.map []) 0) {name : ByteArray} (hs : name.size ≤ 4294967296) (hnm : namedB name.data.toList = true)
    {b c t k lim wt pat : Int} (hr : RightR b c t k) (hS : RightS lim wt) (hp : 1 ≤ pat ∧ pat ≤ 1000000) :
    Calls Tryz.prog 6 #[.pointer (some ⟨h, 0, none⟩), .string name, .agg #[.int .i64 b, .int .i64 c, .int .i64 t, .int .i64 k, .int .i64 lim, .int .i64 wt, .int .i64 pat]] w
      fun e w' => ∃ lv p kk q, e = .returned (.tuple #[lv, .int .i64 0]) ∧ Slc w' 20 lv 1 (outCells name 0).toList ∧ HostAt w' h m s sm 1 (pMap name p) 0 ∧ ProvAt w' p kk q name lim wt 1 pat ∧ w.heap.size ≤ kk ∧ w.grownBy w' (some m) := by
  obtain ⟨c0, c1, c2, f2, hh⟩ := H.facts
  have hx0 : Hid (Ext w (w.alloc (.cells #[.int .i64 b, .int .i64 c, .int .i64 t, .int .i64 k, .int .i64 lim, .int .i64 wt, .int .i64 pat] 32))) := (Ext.refl w).alloc _
  have k6 := cells_new w #[.int .i64 b, .int .i64 c, .int .i64 t, .int .i64 k, .int .i64 lim, .int .i64 wt, .int .i64 pat] 32 (i := 6) (v := .int .i64 pat) rfl
  have HM := Lib.hid (own_ext hx0.out H.map)
  have hlen := fun ty => HM.out.len (t := 81) Tryz.underlying81 ty
  rw [show Maps.size (.map [] : DataW Value) = 0 from rfl] at hlen
  have HK := Lib.hid (hkey hs)
  have HH := Lib.hid H
  have hnamed := Lib.hid (fun w => by have := named_calls name hs w; rw [hnm] at this; exact this)
  have d1 : decide (pat < 1) = false := by simp; omega
  have d2 : decide (1000000 < pat) = false := by simp; omega
  clear H
  go_enter Tryz.func6, Tryz.ntmps6
  go_upto_region 13 with (first
    | (go_at_call 26; refine (hnamed.out _).mono ?_; rintro e w1 ⟨rfl, rfl⟩)
    | (at_lookup; refine wpList_look_no rfl false 81 9 80 _ _ rfl Tryz.underlying81 hstr_keyed (Tryz.zeroValue80 _) rfl HM.out HK.out rfl (fun zd => rfl) ?_)
    | (go_at_call 27; refine (superviseNew_yes hr hS _).mono ?_; rintro e w3 ⟨g, rfl, hg3, hk3, hx3⟩; have k63 := hx3.cell_some k6)
    | (go_at_call 28; refine (queueNew_calls _).mono ?_; rintro e w4 ⟨rfl, rfl⟩))
  -- REGION 13
  have hx4 : Hid (Ext w (w3.alloc (.cells #[.slice none 0 0, .int .i64 8, .int .i64 0] 137))) := (hx0.out.trans hx3).alloc _
  have hx34 : Hid (Ext w3 (w3.alloc (.cells #[.slice none 0 0, .int .i64 8, .int .i64 0] 137))) := (Ext.refl _).alloc _
  have hq4 := Lib.hid (heap_new w3 (.cells #[.slice none 0 0, .int .i64 8, .int .i64 0] 137))
  have hz4 : Hid ((w3.alloc (.cells #[.slice none 0 0, .int .i64 8, .int .i64 0] 137)).heap.size = w3.heap.size + 1) := by simp [Hid]
  have c04 := hx4.out.cell_some c0
  have k64 := hx34.out.cell_some k63
  have hg3' : Hid (w.heap.size < g ∧ g < w3.heap.size) := ⟨by simp at hg3; omega, hk3.facts.2.2⟩
  have HK3 := Lib.hid hk3
  have HS := Lib.hid hs
  clear hk3 hx3 k6 k63 hg3 hlen hs hr hS hp d1 d2 c1 f2
  generalize World.alloc w3 _ = w4 at *
  have c05 := fun o : Obj => Lib.cell?_alloc_some o c04
  have k65 := fun o : Obj => Lib.cell?_alloc_some o k64
  have HO4 := Lib.hid (own_ext ((Ext.refl w4).alloc (provObj g w3.heap.size name pat)) (own_ext hx4.out HH.out.map))
  refine wp_region_any (by kernel_rfl) ?_
  change wpAny _ _ _ _ _ _ _ (World.drew _)
  refine wpAny_take (i := 0) (v := .pointer (some ⟨h, 0, none⟩)) rfl (by kernel_rfl) (by kernel_rfl) (by kernel_rfl) (fun _ _ _ h => h) (Or.inl ⟨by rfl, fun w => rfl⟩) ?_
  simp only [Act.put, List.getElem_toArray, List.getElem_cons_zero, List.getElem_cons_succ, List.setIfInBounds_toArray, List.set_cons_zero, List.set_cons_succ]
  refine wpAny_take (i := 1) (v := .pointer (some ⟨h, 0, none⟩)) rfl (by kernel_rfl) (by kernel_rfl) (by kernel_rfl) (fun _ _ _ h => h) (Or.inl ⟨by rfl, fun w => rfl⟩) ?_
  simp only [Act.put, List.getElem_toArray, List.getElem_cons_zero, List.getElem_cons_succ, List.setIfInBounds_toArray, List.set_cons_zero, List.set_cons_succ]
  refine wpAny_take (i := 2) (v := .pointer (some ⟨h, 0, none⟩)) rfl (by kernel_rfl) (by kernel_rfl) (by kernel_rfl) (fun _ _ _ h => h) (Or.inl ⟨by rfl, fun w => by go_simp⟩) ?_
  simp only [Act.put, List.getElem_toArray, List.getElem_cons_zero, List.getElem_cons_succ, List.setIfInBounds_toArray, List.set_cons_zero, List.set_cons_succ]
  refine wpAny_take (i := 4) (v := .string name) rfl (by kernel_rfl) (by kernel_rfl) (by kernel_rfl) (fun _ _ _ h => h) (Or.inl ⟨by rfl, fun w => rfl⟩) ?_
  simp only [Act.put, List.getElem_toArray, List.getElem_cons_zero, List.getElem_cons_succ, List.setIfInBounds_toArray, List.set_cons_zero, List.set_cons_succ]
  refine wpAny_take (i := 5) (v := .pointer (some ⟨g, 0, none⟩)) rfl (by kernel_rfl) (by kernel_rfl) (by kernel_rfl) (fun _ _ _ h => h) (Or.inl ⟨by rfl, fun w => rfl⟩) ?_
  simp only [Act.put, List.getElem_toArray, List.getElem_cons_zero, List.getElem_cons_succ, List.setIfInBounds_toArray, List.set_cons_zero, List.set_cons_succ]
  refine wpAny_take (i := 6) (v := .string name) rfl (by kernel_rfl) (by kernel_rfl) (by kernel_rfl) (fun _ _ _ h => h) (Or.inl ⟨by rfl, fun w => rfl⟩) ?_
  simp only [Act.put, List.getElem_toArray, List.getElem_cons_zero, List.getElem_cons_succ, List.setIfInBounds_toArray, List.set_cons_zero, List.set_cons_succ]
  refine wpAny_take (i := 7) (v := .pointer (some ⟨w.heap.size, 6, none⟩)) rfl (by kernel_rfl) (by kernel_rfl) (by kernel_rfl) (fun _ _ _ h => h) (Or.inl ⟨by rfl, fun w => by go_simp⟩) ?_
  simp only [Act.put, List.getElem_toArray, List.getElem_cons_zero, List.getElem_cons_succ, List.setIfInBounds_toArray, List.set_cons_zero, List.set_cons_succ]
  refine wpAny_take (i := 9) (v := .pointer (some ⟨w3.heap.size, 0, none⟩)) rfl (by kernel_rfl) (by kernel_rfl) (by kernel_rfl) (fun _ _ _ h => h) (Or.inl ⟨by rfl, fun w => rfl⟩) ?_
  simp only [Act.put, List.getElem_toArray, List.getElem_cons_zero, List.getElem_cons_succ, List.setIfInBounds_toArray, List.set_cons_zero, List.set_cons_succ]
  refine wpAny_ready (rs := [3, 8]) (by kernel_rfl) (by simp) (AllReady.cons rfl (fun K hK => ?_) (AllReady.cons rfl (fun K hK => ?_) AllReady.nil))
  · rw [if_pos (by rfl)]
    go_simp
    refine hK _ _ ?_
    clear hK K
    try simp only [Act.put, List.getElem_toArray, List.getElem_cons_zero, List.getElem_cons_succ, List.setIfInBounds_toArray, List.set_cons_zero, List.set_cons_succ]
    refine wpAny_ready (rs := [8]) (by kernel_rfl) (by simp) (AllReady.cons rfl (fun K hK => ?_) AllReady.nil)
    rw [if_pos (by rfl)]
    go_simp
    refine hK _ _ ?_
    clear hK K
    try simp only [Act.put, List.getElem_toArray, List.getElem_cons_zero, List.getElem_cons_succ, List.setIfInBounds_toArray, List.set_cons_zero, List.set_cons_succ]
    refine wpAny_take (i := 10) (v := .agg #[.pointer (some ⟨g, 0, none⟩), .string name, .int .i64 pat, .pointer (some ⟨w3.heap.size, 0, none⟩), .pointer none]) rfl (by kernel_rfl) (by kernel_rfl) (by kernel_rfl) (fun _ _ _ h => h) (Or.inl ⟨by rfl, fun w => by go_simp⟩) ?_
    simp only [Act.put, List.getElem_toArray, List.getElem_cons_zero, List.getElem_cons_succ, List.setIfInBounds_toArray, List.set_cons_zero, List.set_cons_succ]
    refine wpAny_ready (rs := [11]) (by kernel_rfl) (by simp) (AllReady.cons rfl (fun K hK => ?_) AllReady.nil)
    rw [if_pos (by rfl)]
    go_simp
    refine hK _ _ ?_
    clear hK K
    try simp only [Act.put, List.getElem_toArray, List.getElem_cons_zero, List.getElem_cons_succ, List.setIfInBounds_toArray, List.set_cons_zero, List.set_cons_succ]
    refine wpAny_ready (rs := [12]) (by kernel_rfl) (by simp) (AllReady.cons rfl (fun K hK => ?_) AllReady.nil)
    rw [if_pos (by rfl)]
    refine wp_mapUpdate_own _ _ _ _ 81 rfl 9 80 hstr_keyed Tryz.underlying81 selfElem m 0 _ (by rfl) (show (w4.alloc (provObj g w3.heap.size name pat)).drew.ownsMap Tryz.prog 9 selfElem m 0 (.map []) from HO4.out) (by unfold maxLen; omega) (.string name) (.pointer (some ⟨w4.heap.size, 0, none⟩)) _ (by rfl) (by rfl) HK.out (.held (.pointer (some ⟨w4.heap.size, 0, none⟩))) [] rfl ?_
    intro w5 hown5 hgrow5
    refine hK _ _ ?_
    clear hK K
    try simp only [Act.put, List.getElem_toArray, List.getElem_cons_zero, List.getElem_cons_succ, List.setIfInBounds_toArray, List.set_cons_zero, List.set_cons_succ]
    refine wpAny_done (by kernel_rfl) ?_ _
    have hpr := Lib.hid (add_host HH.out hx4.out hx34.out hz4.out hg3'.out HK3.out hq4.out hown5 (pat := pat) ⟨hgrow5.os, hgrow5.tape, hgrow5.output, hgrow5.size, hgrow5.block⟩)
    clear c04 k64 c05 k65 HO4 hown5 hgrow5
    obtain ⟨y0, y1, y2, yf2, yh⟩ := hpr.out.1.facts
    have y2' := fun o : Obj => Lib.cell?_alloc_some o y2
    go_wp2_with (first
      | (go_at_call 29; refine (of_yes hpr.out.1 HS.out (pMap_at name _)).mono ?_; rintro e w6 ⟨rfl, rfl⟩)
      | (go_at_call 30; refine (start_calls (hpr.out.2.1.keep.ext ((Ext.refl w5).alloc (runObj w4.heap.size h (.slice none 0 0)))) _).mono ?_; rintro e w7 ⟨lv, rfl, hl7, hk7, hg7⟩; obtain ⟨al, cl, rfl⟩ := Slc.is hl7)
      | (go_at_call 31; refine (take_calls (r := w5.heap.size) (p := w4.heap.size) (h := h) (name := name) (add_run hg7 hpr.out.2.1) (add_name hg7 hpr.out.2.1) hl7).mono ?_; rintro e w8 ⟨rfl, v, hr8, hv8, hg8⟩; obtain ⟨av, cv, rfl⟩ := Slc.is hv8; have r2 := run_out hr8))
    go_ret2
    obtain ⟨e1, e2, e3⟩ := add_end hpr.out.1 hpr.out.2.1 hpr.out.2.2.1 hg3'.out.1 hh hg7 hk7 hg8
    exact ⟨_, w4.heap.size, g, w3.heap.size, rfl, hv8, e1, e2, by have := hg3'.out.1; omega, e3⟩
  · rw [if_pos (by rfl)]
    go_simp
    refine hK _ _ ?_
    clear hK K
    try simp only [Act.put, List.getElem_toArray, List.getElem_cons_zero, List.getElem_cons_succ, List.setIfInBounds_toArray, List.set_cons_zero, List.set_cons_succ]
    refine wpAny_take (i := 10) (v := .agg #[.pointer (some ⟨g, 0, none⟩), .string name, .int .i64 pat, .pointer (some ⟨w3.heap.size, 0, none⟩), .pointer none]) rfl (by kernel_rfl) (by kernel_rfl) (by kernel_rfl) (fun _ _ _ h => h) (Or.inl ⟨by rfl, fun w => by go_simp⟩) ?_
    simp only [Act.put, List.getElem_toArray, List.getElem_cons_zero, List.getElem_cons_succ, List.setIfInBounds_toArray, List.set_cons_zero, List.set_cons_succ]
    refine wpAny_ready (rs := [3, 11]) (by kernel_rfl) (by simp) (AllReady.cons rfl (fun K hK => ?_) (AllReady.cons rfl (fun K hK => ?_) AllReady.nil))
    · rw [if_pos (by rfl)]
      go_simp
      refine hK _ _ ?_
      clear hK K
      try simp only [Act.put, List.getElem_toArray, List.getElem_cons_zero, List.getElem_cons_succ, List.setIfInBounds_toArray, List.set_cons_zero, List.set_cons_succ]
      refine wpAny_ready (rs := [11]) (by kernel_rfl) (by simp) (AllReady.cons rfl (fun K hK => ?_) AllReady.nil)
      rw [if_pos (by rfl)]
      go_simp
      refine hK _ _ ?_
      clear hK K
      try simp only [Act.put, List.getElem_toArray, List.getElem_cons_zero, List.getElem_cons_succ, List.setIfInBounds_toArray, List.set_cons_zero, List.set_cons_succ]
      refine wpAny_ready (rs := [12]) (by kernel_rfl) (by simp) (AllReady.cons rfl (fun K hK => ?_) AllReady.nil)
      rw [if_pos (by rfl)]
      refine wp_mapUpdate_own _ _ _ _ 81 rfl 9 80 hstr_keyed Tryz.underlying81 selfElem m 0 _ (by rfl) (show (w4.alloc (provObj g w3.heap.size name pat)).drew.ownsMap Tryz.prog 9 selfElem m 0 (.map []) from HO4.out) (by unfold maxLen; omega) (.string name) (.pointer (some ⟨w4.heap.size, 0, none⟩)) _ (by rfl) (by rfl) HK.out (.held (.pointer (some ⟨w4.heap.size, 0, none⟩))) [] rfl ?_
      intro w5 hown5 hgrow5
      refine hK _ _ ?_
      clear hK K
      try simp only [Act.put, List.getElem_toArray, List.getElem_cons_zero, List.getElem_cons_succ, List.setIfInBounds_toArray, List.set_cons_zero, List.set_cons_succ]
      refine wpAny_done (by kernel_rfl) ?_ _
      have hpr := Lib.hid (add_host HH.out hx4.out hx34.out hz4.out hg3'.out HK3.out hq4.out hown5 (pat := pat) ⟨hgrow5.os, hgrow5.tape, hgrow5.output, hgrow5.size, hgrow5.block⟩)
      clear c04 k64 c05 k65 HO4 hown5 hgrow5
      obtain ⟨y0, y1, y2, yf2, yh⟩ := hpr.out.1.facts
      have y2' := fun o : Obj => Lib.cell?_alloc_some o y2
      go_wp2_with (first
        | (go_at_call 29; refine (of_yes hpr.out.1 HS.out (pMap_at name _)).mono ?_; rintro e w6 ⟨rfl, rfl⟩)
        | (go_at_call 30; refine (start_calls (hpr.out.2.1.keep.ext ((Ext.refl w5).alloc (runObj w4.heap.size h (.slice none 0 0)))) _).mono ?_; rintro e w7 ⟨lv, rfl, hl7, hk7, hg7⟩; obtain ⟨al, cl, rfl⟩ := Slc.is hl7)
        | (go_at_call 31; refine (take_calls (r := w5.heap.size) (p := w4.heap.size) (h := h) (name := name) (add_run hg7 hpr.out.2.1) (add_name hg7 hpr.out.2.1) hl7).mono ?_; rintro e w8 ⟨rfl, v, hr8, hv8, hg8⟩; obtain ⟨av, cv, rfl⟩ := Slc.is hv8; have r2 := run_out hr8))
      go_ret2
      obtain ⟨e1, e2, e3⟩ := add_end hpr.out.1 hpr.out.2.1 hpr.out.2.2.1 hg3'.out.1 hh hg7 hk7 hg8
      exact ⟨_, w4.heap.size, g, w3.heap.size, rfl, hv8, e1, e2, by have := hg3'.out.1; omega, e3⟩
    · rw [if_pos (by rfl)]
      go_simp
      refine hK _ _ ?_
      clear hK K
      try simp only [Act.put, List.getElem_toArray, List.getElem_cons_zero, List.getElem_cons_succ, List.setIfInBounds_toArray, List.set_cons_zero, List.set_cons_succ]
      refine wpAny_ready (rs := [3]) (by kernel_rfl) (by simp) (AllReady.cons rfl (fun K hK => ?_) AllReady.nil)
      rw [if_pos (by rfl)]
      go_simp
      refine hK _ _ ?_
      clear hK K
      try simp only [Act.put, List.getElem_toArray, List.getElem_cons_zero, List.getElem_cons_succ, List.setIfInBounds_toArray, List.set_cons_zero, List.set_cons_succ]
      refine wpAny_ready (rs := [12]) (by kernel_rfl) (by simp) (AllReady.cons rfl (fun K hK => ?_) AllReady.nil)
      rw [if_pos (by rfl)]
      refine wp_mapUpdate_own _ _ _ _ 81 rfl 9 80 hstr_keyed Tryz.underlying81 selfElem m 0 _ (by rfl) (show (w4.alloc (provObj g w3.heap.size name pat)).drew.ownsMap Tryz.prog 9 selfElem m 0 (.map []) from HO4.out) (by unfold maxLen; omega) (.string name) (.pointer (some ⟨w4.heap.size, 0, none⟩)) _ (by rfl) (by rfl) HK.out (.held (.pointer (some ⟨w4.heap.size, 0, none⟩))) [] rfl ?_
      intro w5 hown5 hgrow5
      refine hK _ _ ?_
      clear hK K
      try simp only [Act.put, List.getElem_toArray, List.getElem_cons_zero, List.getElem_cons_succ, List.setIfInBounds_toArray, List.set_cons_zero, List.set_cons_succ]
      refine wpAny_done (by kernel_rfl) ?_ _
      have hpr := Lib.hid (add_host HH.out hx4.out hx34.out hz4.out hg3'.out HK3.out hq4.out hown5 (pat := pat) ⟨hgrow5.os, hgrow5.tape, hgrow5.output, hgrow5.size, hgrow5.block⟩)
      clear c04 k64 c05 k65 HO4 hown5 hgrow5
      obtain ⟨y0, y1, y2, yf2, yh⟩ := hpr.out.1.facts
      have y2' := fun o : Obj => Lib.cell?_alloc_some o y2
      go_wp2_with (first
        | (go_at_call 29; refine (of_yes hpr.out.1 HS.out (pMap_at name _)).mono ?_; rintro e w6 ⟨rfl, rfl⟩)
        | (go_at_call 30; refine (start_calls (hpr.out.2.1.keep.ext ((Ext.refl w5).alloc (runObj w4.heap.size h (.slice none 0 0)))) _).mono ?_; rintro e w7 ⟨lv, rfl, hl7, hk7, hg7⟩; obtain ⟨al, cl, rfl⟩ := Slc.is hl7)
        | (go_at_call 31; refine (take_calls (r := w5.heap.size) (p := w4.heap.size) (h := h) (name := name) (add_run hg7 hpr.out.2.1) (add_name hg7 hpr.out.2.1) hl7).mono ?_; rintro e w8 ⟨rfl, v, hr8, hv8, hg8⟩; obtain ⟨av, cv, rfl⟩ := Slc.is hv8; have r2 := run_out hr8))
      go_ret2
      obtain ⟨e1, e2, e3⟩ := add_end hpr.out.1 hpr.out.2.1 hpr.out.2.2.1 hg3'.out.1 hh hg7 hk7 hg8
      exact ⟨_, w4.heap.size, g, w3.heap.size, rfl, hv8, e1, e2, by have := hg3'.out.1; omega, e3⟩
end Go.Proofs.YtamcfjjnaolpmaaGreatDoor
