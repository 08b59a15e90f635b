/- A statement's value, as it is read. -/
import Derived.Test.YtbnmjdmbdoehlaaGreatDoorGa
import Derived.ChangeArms
import Derived.DataReads
import Derived.ChangeShapes
import Derived.WideShapes
namespace Go.Proofs.YtbnmjdmbdoehlaaGreatDoor
open Go.RowKit
set_option maxRecDepth 100000

theorem cell_plain {w : World} {a : Addr} {v : Value} (h : w.cell? a = some v) : a.spot = none := by
  unfold World.cell? at h
  split at h
  · cases hs : a.spot with
    | none => rfl
    | some x => simp [hs] at h
  · cases h

theorem VAt.up {w : World} : ∀ (d : Nat) (v : Value), VAt w d v → VAt w (d + 1) v := by
  intro d
  induction d with
  | zero => intro v h; exact h.elim
  | succ d ih =>
    rintro v ⟨k, bo, n, m, s, a, nl, cl, a2, nk, ck, rfl, h1, h2, h3, h4, h5⟩
    refine ⟨k, bo, n, m, s, a, nl, cl, a2, nk, ck, rfl, h1, h2, h3, fun hn => ?_, h5⟩
    obtain ⟨b, off, e, h⟩ := h4 hn
    refine ⟨b, off, e, fun i hi => ?_⟩
    obtain ⟨x0, x1, x2, x3, x4, x5, x6, c0, c1, c2, c3, c4, c5, c6, hv⟩ := h i hi
    exact ⟨x0, x1, x2, x3, x4, x5, x6, c0, c1, c2, c3, c4, c5, c6, ih _ hv⟩

section
variable {H : Type} {enc : TypeId × Value → H} {w : World} {base : Nat} {spare : Nat → Bool} {held : Bool}

theorem trod_fields {fs : Array Field} {t : TypeId} {fuel : Nat} {cs : List Value} {x : DataW H × List MemPlace} (ht : Tryz.prog.underlying t = some (.struct fs)) (h : DataW.trod enc Tryz.prog w base spare held fuel t cs = some x) :
    ∃ n, fuel = n + 1 ∧ cs.length = Tryz.prog.cellsOf t ∧ ∀ (i : Nat) (f : Field), fs[i]? = some f → ∃ y, DataW.trod enc Tryz.prog w base spare held n f.type ((cs.drop f.offset).take (Tryz.prog.cellsOf f.type)) = some y := by
  obtain ⟨xs, n, rfl, _, hl, hs, hf⟩ := DataW.trod_struct ht h
  refine ⟨n, rfl, hl, fun i f hi => ?_⟩
  have hlt : i < xs.length := by rw [hs]; exact (Array.getElem?_eq_some_iff.1 hi).1
  exact ⟨xs[i], (hf i f hi).trans (List.getElem?_eq_getElem hlt)⟩

theorem add_plain {a : Addr} (h : a.spot = none) (i : Nat) : a.add i = ⟨a.block, a.off + i, none⟩ := by
  unfold Addr.add
  cases a with
  | mk b o sp =>
    cases h
    by_cases e : i = 0
    · subst e; rfl
    · rw [if_neg e]

theorem vat_of_trod : ∀ (fuel : Nat) (cs : List Value) (x : DataW H × List MemPlace), DataW.trod enc Tryz.prog w base spare held fuel 25 cs = some x → VAt w fuel (.agg cs.toArray) := by
  intro fuel
  induction fuel using Nat.strongRecOn with
  | ind fuel ih =>
    intro cs x h
    obtain ⟨n, rfl, hl, hf⟩ := trod_fields Tryz.underlying25 h
    have c25 : Tryz.prog.cellsOf 25 = 7 := by kernel_rfl
    have c3 : Tryz.prog.cellsOf 3 = 1 := by kernel_rfl
    have c4 : Tryz.prog.cellsOf 4 = 1 := by kernel_rfl
    have c9 : Tryz.prog.cellsOf 9 = 1 := by kernel_rfl
    have c22 : Tryz.prog.cellsOf 22 = 1 := by kernel_rfl
    have c23 : Tryz.prog.cellsOf 23 = 1 := by kernel_rfl
    rw [c25] at hl
    obtain ⟨x0, x1, x2, x3, x4, x5, x6, rfl⟩ : ∃ x0 x1 x2 x3 x4 x5 x6, cs = [x0, x1, x2, x3, x4, x5, x6] := by
      match cs, hl with
      | [x0, x1, x2, x3, x4, x5, x6], _ => exact ⟨_, _, _, _, _, _, _, rfl⟩
    obtain ⟨y0, h0⟩ := hf 0 { name := "K", type := 3, offset := 0, embedded := false, tag := "", pkgPath := "", byteOffset := 0 } rfl
    obtain ⟨y1, h1⟩ := hf 1 { name := "B", type := 4, offset := 1, embedded := false, tag := "", pkgPath := "", byteOffset := 8 } rfl
    obtain ⟨y2, h2⟩ := hf 2 { name := "N", type := 3, offset := 2, embedded := false, tag := "", pkgPath := "", byteOffset := 16 } rfl
    obtain ⟨y3, h3⟩ := hf 3 { name := "M", type := 3, offset := 3, embedded := false, tag := "", pkgPath := "", byteOffset := 24 } rfl
    obtain ⟨y4, h4⟩ := hf 4 { name := "S", type := 9, offset := 4, embedded := false, tag := "", pkgPath := "", byteOffset := 32 } rfl
    obtain ⟨y5, h5⟩ := hf 5 { name := "L", type := 22, offset := 5, embedded := false, tag := "", pkgPath := "", byteOffset := 48 } rfl
    obtain ⟨y6, h6⟩ := hf 6 { name := "Keys", type := 23, offset := 6, embedded := false, tag := "", pkgPath := "", byteOffset := 72 } rfl
    dsimp only at h0 h1 h2 h3 h4 h5 h6
    rw [c3] at h0 h2 h3
    rw [c4] at h1
    rw [c9] at h4
    rw [c22] at h5
    rw [c23] at h6
    have h0 : DataW.trod enc Tryz.prog w base spare held n 3 [x0] = some y0 := h0
    have h1 : DataW.trod enc Tryz.prog w base spare held n 4 [x1] = some y1 := h1
    have h2 : DataW.trod enc Tryz.prog w base spare held n 3 [x2] = some y2 := h2
    have h3 : DataW.trod enc Tryz.prog w base spare held n 3 [x3] = some y3 := h3
    have h4 : DataW.trod enc Tryz.prog w base spare held n 9 [x4] = some y4 := h4
    have h5 : DataW.trod enc Tryz.prog w base spare held n 22 [x5] = some y5 := h5
    have h6 : DataW.trod enc Tryz.prog w base spare held n 23 [x6] = some y6 := h6
    obtain ⟨k, e0, _, _⟩ := DataW.trod_int Tryz.underlying3 h0
    obtain ⟨bo, e1, _⟩ := DataW.trod_bool Tryz.underlying4 h1
    obtain ⟨nn, e2, _, _⟩ := DataW.trod_int Tryz.underlying3 h2
    obtain ⟨m, e3, _, _⟩ := DataW.trod_int Tryz.underlying3 h3
    obtain ⟨s, e4, _, hs⟩ := DataW.trod_string Tryz.underlying9 h4
    cases e0; cases e1; cases e2; cases e3; cases e4
    have hL : ∃ a nl cl, x5 = .slice a nl cl ∧ nl ≤ maxLen ∧ (nl ≠ 0 → ∃ b off, a = some ⟨b, off, none⟩ ∧ ∀ i, i < nl → ∃ x0 x1 x2 x3 x4 x5 x6, w.cell? ⟨b, off + i * 7, none⟩ = some x0 ∧ w.cell? ⟨b, off + i * 7 + 1, none⟩ = some x1 ∧ w.cell? ⟨b, off + i * 7 + 2, none⟩ = some x2 ∧ w.cell? ⟨b, off + i * 7 + 3, none⟩ = some x3 ∧
        w.cell? ⟨b, off + i * 7 + 4, none⟩ = some x4 ∧ w.cell? ⟨b, off + i * 7 + 5, none⟩ = some x5 ∧ w.cell? ⟨b, off + i * 7 + 6, none⟩ = some x6 ∧ VAt w n (.agg #[x0, x1, x2, x3, x4, x5, x6])) := by
      rcases DataW.trod_slice Tryz.underlying22 h5 with ⟨e, _⟩ | ⟨a, len, cap, elems, rest, n', rfl, e, _, hb, hlc, hcm, hel, hall, _, _⟩
      · cases e; exact ⟨none, 0, 0, rfl, by decide, fun h => absurd rfl h⟩
      · cases e
        refine ⟨some a, len, cap, rfl, Nat.le_trans hlc hcm, fun hn => ?_⟩
        have get : ∀ i, i < len → ∃ cs', w.cells? base (a.add (i * 7)) 7 = some cs' ∧ ∃ y, DataW.trod enc Tryz.prog w base spare held n' 25 cs' = some y := by
          intro i hi
          have := hall i hi
          rw [c25, List.getElem?_eq_getElem (by omega)] at this
          obtain ⟨cs', k1, k2⟩ := Option.bind_eq_some_iff.1 this
          exact ⟨cs', k1, _, k2⟩
        have hsp : a.spot = none := by
          obtain ⟨cs', k1, _⟩ := get 0 (by omega)
          obtain ⟨_, k2, k3⟩ := World.cells?_some k1
          have k4 := k3 0 (by omega)
          rw [List.getElem?_eq_getElem (by omega)] at k4
          have k5 : (a.add (0 * 7)).add 0 = a := by simp [Addr.add]
          rw [k5] at k4
          exact cell_plain k4
        refine ⟨a.block, a.off, by cases a; cases hsp; rfl, fun i hi => ?_⟩
        obtain ⟨cs', k1, y, k2⟩ := get i hi
        obtain ⟨_, k3, k4⟩ := World.cells?_some k1
        have hv := ih n' (by omega) cs' y k2
        obtain ⟨z0, z1, z2, z3, z4, z5, z6, rfl⟩ : ∃ x0 x1 x2 x3 x4 x5 x6, cs' = [x0, x1, x2, x3, x4, x5, x6] := by
          match cs', k3 with
          | [x0, x1, x2, x3, x4, x5, x6], _ => exact ⟨_, _, _, _, _, _, _, rfl⟩
        have k6 : ∀ j, j < 7 → w.cell? ⟨a.block, a.off + i * 7 + j, none⟩ = [z0, z1, z2, z3, z4, z5, z6][j]? := by
          intro j hj
          rw [← k4 j hj, add_plain hsp, add_plain rfl]
        have hd : VAt w (n' + 1) (.agg #[z0, z1, z2, z3, z4, z5, z6]) := VAt.up _ _ hv
        exact ⟨z0, z1, z2, z3, z4, z5, z6, k6 0 (by omega), k6 1 (by omega), k6 2 (by omega), k6 3 (by omega), k6 4 (by omega), k6 5 (by omega), k6 6 (by omega), hd⟩
    have hK : ∃ a nk ck, x6 = .slice a nk ck ∧ nk ≤ maxLen ∧ (nk ≠ 0 → ∃ b off, a = some ⟨b, off, none⟩ ∧ ∀ i, i < nk → ∃ t : ByteArray, w.cell? ⟨b, off + i, none⟩ = some (.string t) ∧ t.size ≤ maxLen) := by
      rcases DataW.trod_slice Tryz.underlying23 h6 with ⟨e, _⟩ | ⟨a, len, cap, elems, rest, n', rfl, e, _, hb, hlc, hcm, hel, hall, _, _⟩
      · cases e; exact ⟨none, 0, 0, rfl, by decide, fun h => absurd rfl h⟩
      · cases e
        refine ⟨some a, len, cap, rfl, Nat.le_trans hlc hcm, fun hn => ?_⟩
        have get : ∀ i, i < len → ∃ t : ByteArray, w.cell? (a.add i) = some (.string t) ∧ t.size ≤ maxLen := by
          intro i hi
          have := hall i hi
          rw [c9, List.getElem?_eq_getElem (by omega)] at this
          obtain ⟨cs', k1, k2⟩ := Option.bind_eq_some_iff.1 this
          obtain ⟨t, e, _, ht⟩ := DataW.trod_string Tryz.underlying9 k2
          subst e
          obtain ⟨_, _, k4⟩ := World.cells?_some k1
          have := k4 0 (by omega)
          have e2 : (a.add (i * 1)).add 0 = a.add i := by simp [Addr.add]
          rw [e2] at this
          exact ⟨t, this, ht⟩
        have hsp : a.spot = none := by
          obtain ⟨t, k1, _⟩ := get 0 (by omega)
          have e2 : a.add 0 = a := by simp [Addr.add]
          rw [e2] at k1
          exact cell_plain k1
        refine ⟨a.block, a.off, by cases a; cases hsp; rfl, fun i hi => ?_⟩
        obtain ⟨t, k1, k2⟩ := get i hi
        rw [add_plain hsp] at k1
        exact ⟨t, k1, k2⟩
    obtain ⟨a, nl, cl, rfl, g1, g2⟩ := hL
    obtain ⟨a2, nk, ck, rfl, g3, g4⟩ := hK
    exact ⟨k, bo, nn, m, s, a, nl, cl, a2, nk, ck, rfl, g1, g3, hs, g2, g4⟩

theorem trod_sl {e t : TypeId} {fuel : Nat} {x : Value} {y : DataW H × List MemPlace} (ht : Tryz.prog.underlying t = some (.slice e)) (h : DataW.trod enc Tryz.prog w base spare held fuel t [x] = some y) : ∃ a l c, x = .slice a l c := by
  rcases DataW.trod_slice ht h with ⟨e, _⟩ | ⟨a, len, cap, elems, rest, n', _, e, _⟩
  · cases e; exact ⟨_, _, _, rfl⟩
  · cases e; exact ⟨_, _, _, rfl⟩

/-- A P, as it is read. -/
theorem p_shape {r : Reach} {b0 : Nat} {v : Value} {d : DataW H} {p : List MemPlace} (hv : Value.okWide Tryz.prog w r b0 134 v) (ht : DataW.Trod enc Tryz.prog w base spare held 134 v d p) :
    ∃ (num : Int) (a1 : Option Addr) (l1 c1 : Nat) (k : Int) (bo : Bool) (n m : Int) (s : ByteArray) (a : Option Addr) (nl cl : Nat) (a2 : Option Addr) (nk ck : Nat) (a9 : Option Addr) (l9 c9 : Nat) (a10 : Option Addr) (l10 c10 : Nat) (a11 : Option Addr) (l11 c11 dd : Nat),
      v = .agg #[.int .i64 num, .slice a1 l1 c1, .int .i64 k, .bool bo, .int .i64 n, .int .i64 m, .string s, .slice a nl cl, .slice a2 nk ck, .slice a9 l9 c9, .slice a10 l10 c10, .slice a11 l11 c11] ∧
      VAt w dd (.agg #[.int .i64 k, .bool bo, .int .i64 n, .int .i64 m, .string s, .slice a nl cl, .slice a2 nk ck]) := by
  obtain ⟨cs, rfl, hs⟩ := Go.WideShapes.okWide_struct Tryz.underlying134 hv
  obtain ⟨fuel, h⟩ := ht
  have h : DataW.trod enc Tryz.prog w base spare held fuel 134 cs.toList = some (d, p) := h
  obtain ⟨nn, rfl, hl, hf⟩ := trod_fields Tryz.underlying134 h
  have cP : Tryz.prog.cellsOf 134 = 12 := by kernel_rfl
  have c25 : Tryz.prog.cellsOf 25 = 7 := by kernel_rfl
  have c3 : Tryz.prog.cellsOf 3 = 1 := by kernel_rfl
  have c131 : Tryz.prog.cellsOf 131 = 1 := by kernel_rfl
  have c132 : Tryz.prog.cellsOf 132 = 1 := by kernel_rfl
  have c23 : Tryz.prog.cellsOf 23 = 1 := by kernel_rfl
  have c89 : Tryz.prog.cellsOf 89 = 1 := by kernel_rfl
  rw [cP] at hl
  obtain ⟨x0, x1, z0, z1, z2, z3, z4, z5, z6, x9, x10, x11, hcs⟩ : ∃ x0 x1 z0 z1 z2 z3 z4 z5 z6 x9 x10 x11, cs.toList = [x0, x1, z0, z1, z2, z3, z4, z5, z6, x9, x10, x11] := by
    generalize cs.toList = l at hl
    match l, hl with
    | [x0, x1, z0, z1, z2, z3, z4, z5, z6, x9, x10, x11], _ => exact ⟨_, _, _, _, _, _, _, _, _, _, _, _, rfl⟩
  obtain rfl : cs = #[x0, x1, z0, z1, z2, z3, z4, z5, z6, x9, x10, x11] := Array.toList_inj.1 hcs
  obtain ⟨y0, h0⟩ := hf 0 { name := "Number", type := 3, offset := 0, embedded := false, tag := "", pkgPath := "", byteOffset := 0 } rfl
  obtain ⟨y1, h1⟩ := hf 1 { name := "Notes", type := 131, offset := 1, embedded := false, tag := "", pkgPath := "", byteOffset := 8 } rfl
  obtain ⟨y2, h2⟩ := hf 2 { name := "Value", type := 25, offset := 2, embedded := false, tag := "", pkgPath := "", byteOffset := 32 } rfl
  obtain ⟨y3, h3⟩ := hf 3 { name := "Private", type := 89, offset := 9, embedded := false, tag := "", pkgPath := "", byteOffset := 128 } rfl
  obtain ⟨y4, h4⟩ := hf 4 { name := "Renew", type := 23, offset := 10, embedded := false, tag := "", pkgPath := "", byteOffset := 152 } rfl
  obtain ⟨y5, h5⟩ := hf 5 { name := "Kinds", type := 132, offset := 11, embedded := false, tag := "", pkgPath := "", byteOffset := 176 } rfl
  dsimp only at h0 h1 h2 h3 h4 h5
  rw [c3] at h0
  rw [c131] at h1
  rw [c25] at h2
  rw [c89] at h3
  rw [c23] at h4
  rw [c132] at h5
  have h0 : DataW.trod enc Tryz.prog w base spare held nn 3 [x0] = some y0 := h0
  have h1 : DataW.trod enc Tryz.prog w base spare held nn 131 [x1] = some y1 := h1
  have h2 : DataW.trod enc Tryz.prog w base spare held nn 25 [z0, z1, z2, z3, z4, z5, z6] = some y2 := h2
  have h3 : DataW.trod enc Tryz.prog w base spare held nn 89 [x9] = some y3 := h3
  have h4 : DataW.trod enc Tryz.prog w base spare held nn 23 [x10] = some y4 := h4
  have h5 : DataW.trod enc Tryz.prog w base spare held nn 132 [x11] = some y5 := h5
  obtain ⟨num, e0, _, _⟩ := DataW.trod_int Tryz.underlying3 h0
  cases e0
  obtain ⟨a1, l1, c1, rfl⟩ := trod_sl Tryz.underlying131 h1
  have hV := vat_of_trod _ _ _ h2
  obtain ⟨a9, l9, c9, rfl⟩ := trod_sl Tryz.underlying89 h3
  obtain ⟨a10, l10, c10, rfl⟩ := trod_sl Tryz.underlying23 h4
  obtain ⟨a11, l11, c11, rfl⟩ := trod_sl Tryz.underlying132 h5
  cases nn with
  | zero => exact hV.elim
  | succ nn =>
    have hV0 := hV
    obtain ⟨k, bo, n, m, s, a, nl, cl, a2, nk, ck, e, _⟩ := hV
    cases e
    exact ⟨num, a1, l1, c1, k, bo, n, m, s, a, nl, cl, a2, nk, ck, a9, l9, c9, a10, l10, c10, a11, l11, c11, nn + 1, rfl, hV0⟩
end
end Go.Proofs.YtbnmjdmbdoehlaaGreatDoor
