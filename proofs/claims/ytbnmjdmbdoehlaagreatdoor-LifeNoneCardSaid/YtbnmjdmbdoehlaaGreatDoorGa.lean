/- A statement's value, of any shape: how big and how deep it is. -/
import Derived.Test.YtbnmjdmbdoehlaaGreatDoorNm
import Derived.Deep.RegionHeld3
import Derived.IntWalk
import Derived.Deep.RegionLawGrows
namespace Go.Proofs.YtbnmjdmbdoehlaaGreatDoor
open Go.RowKit
set_option maxRecDepth 100000

theorem cells_new (w : World) (cs : Array Value) (t : TypeId) {i : Nat} {v : Value} (h : cs[i]? = some v) : (w.alloc (.cells cs t)).cell? ⟨w.heap.size, i, none⟩ = some v := by
  unfold World.cell?
  rw [show (⟨w.heap.size, i, none⟩ : Addr).block = w.heap.size from rfl, heap_new]
  exact h

/-- A statement's value lies here, no deeper than so. -/
def VAt (w : World) : Nat → Value → Prop
  | 0, _ => False
  | d + 1, v => ∃ (k : Int) (bo : Bool) (n m : Int) (s : ByteArray) (a : Option Addr) (nl cl : Nat) (a2 : Option Addr) (nk ck : Nat),
      v = .agg #[.int .i64 k, .bool bo, .int .i64 n, .int .i64 m, .string s, .slice a nl cl, .slice a2 nk ck] ∧ nl ≤ maxLen ∧ nk ≤ maxLen ∧ s.size ≤ maxLen ∧
      (nl ≠ 0 → ∃ b off, a = some ⟨b, off, none⟩ ∧ ∀ i, i < nl → ∃ x0 x1 x2 x3 x4 x5 x6, w.cell? ⟨b, off + i * 7, none⟩ = some x0 ∧ w.cell? ⟨b, off + i * 7 + 1, none⟩ = some x1 ∧ w.cell? ⟨b, off + i * 7 + 2, none⟩ = some x2 ∧ w.cell? ⟨b, off + i * 7 + 3, none⟩ = some x3 ∧
        w.cell? ⟨b, off + i * 7 + 4, none⟩ = some x4 ∧ w.cell? ⟨b, off + i * 7 + 5, none⟩ = some x5 ∧ w.cell? ⟨b, off + i * 7 + 6, none⟩ = some x6 ∧ VAt w d (.agg #[x0, x1, x2, x3, x4, x5, x6])) ∧
      (nk ≠ 0 → ∃ b off, a2 = some ⟨b, off, none⟩ ∧ ∀ i, i < nk → ∃ t : ByteArray, w.cell? ⟨b, off + i, none⟩ = some (.string t) ∧ t.size ≤ maxLen)

theorem VAt.ext {w w' : World} (hx : Ext w w') : ∀ (d : Nat) (v : Value), VAt w d v → VAt w' d v := by
  intro d
  induction d with
  | zero => intro v h; exact h
  | succ d ih =>
    rintro v ⟨k, bo, n, m, s, a, nl, cl, a2, nk, ck, rfl, h1, h2, h3, h4, h5⟩
    refine ⟨k, bo, n, m, s, a, nl, cl, a2, nk, ck, rfl, h1, h2, h3, fun hn => ?_, fun hn => ?_⟩
    · obtain ⟨b, off, e, h⟩ := h4 hn
      refine ⟨b, off, e, fun i hi => ?_⟩
      obtain ⟨x0, x1, x2, x3, x4, x5, x6, c0, c1, c2, c3, c4, c5, c6, hv⟩ := h i hi
      exact ⟨x0, x1, x2, x3, x4, x5, x6, hx.cell_some c0, hx.cell_some c1, hx.cell_some c2, hx.cell_some c3, hx.cell_some c4, hx.cell_some c5, hx.cell_some c6, ih _ hv⟩
    · obtain ⟨b, off, e, h⟩ := h5 hn
      refine ⟨b, off, e, fun i hi => ?_⟩
      obtain ⟨t, c, ht⟩ := h i hi
      exact ⟨t, hx.cell_some c, ht⟩

set_option maxHeartbeats 1000000 in
theorem size_calls : ∀ (d : Nat) (v : Value) (w : World), VAt w d v → Calls Tryz.prog 61 #[v] w fun e w' => (∃ n : Int, e = .returned (.int .i64 n)) ∧ Ext w w' := by
  intro d
  induction d with
  | zero => intro v w h; exact h.elim
  | succ d ih =>
    rintro v w ⟨k, bo, n, m, s, a, nl, cl, a2, nk, ck, rfl, h1, h2, h3, h4, h5⟩
    have H4 := Lib.hid h4
    have IH := Lib.hid ih
    clear h4 h5 ih
    have k5 := cells_new w #[.int .i64 k, .bool bo, .int .i64 n, .int .i64 m, .string s, .slice a nl cl, .slice a2 nk ck] 25 (i := 5) (v := .slice a nl cl) rfl
    have hx0 := Lib.hid ((Ext.refl w).alloc (.cells #[.int .i64 k, .bool bo, .int .i64 n, .int .i64 m, .string s, .slice a nl cl, .slice a2 nk ck] 25))
    go_enter Tryz.func61, Tryz.ntmps61
    go_wp2
    generalize World.alloc w _ = w1 at *
    go_loopw [3, 4] (fun nn i wr => (∃ q : Int, nn = .int .i64 q) ∧ (∃ j : Nat, j ≤ nl ∧ i = .int .i64 j) ∧ Ext w1 wr) (fun _ i _ => nl - (intOf i).toNat)
    case atStart => exact ⟨⟨_, rfl⟩, ⟨0, Nat.zero_le _, rfl⟩, Ext.refl _⟩
    case round =>
      obtain ⟨⟨q, rfl⟩, ⟨j, hj, rfl⟩, hx1⟩ := hrel
      have k5' := hx1.cell_some k5
      by_cases hlt : j < nl
      · obtain ⟨b, off, rfl, hc⟩ := H4.out (by omega)
        obtain ⟨x0, x1, x2, x3, x4, x5, x6, c0, c1, c2, c3, c4, c5, c6, hv⟩ := hc j hlt
        have hxx := hx0.out.trans hx1
        have d0 := hxx.cell_some c0
        have d1 := hxx.cell_some c1
        have d2 := hxx.cell_some c2
        have d3 := hxx.cell_some c3
        have d4 := hxx.cell_some c4
        have d5 := hxx.cell_some c5
        have d6 := hxx.cell_some c6
        have HV := Lib.hid (VAt.ext hxx _ _ hv)
        have HX := Lib.hid hx1
        clear hc hv c0 c1 c2 c3 c4 c5 c6 hxx hx1 k5
        go_wp2_with (go_at_call 61; refine (IH.out _ _ HV.out).mono ?_; rintro e w2 ⟨⟨q2, rfl⟩, hx2⟩)
        have hM : maxLen ≤ 9223372036854775807 := by decide
        have hW : wrap64 ((j : Int) + 1) = ((j + 1 : Nat) : Int) := by unfold wrap64; omega
        go_roundw
        case rel => exact ⟨⟨_, rfl⟩, ⟨j + 1, by omega, by rw [hW]⟩, HX.out.trans hx2⟩
        case measure => rw [hW]; simp [intOf]; omega
      · obtain rfl : j = nl := by omega
        have HX := Lib.hid hx1
        clear hx1 k5
        go_wp2
        go_ret
        exact ⟨⟨_, rfl⟩, hx0.out.trans HX.out⟩

set_option maxHeartbeats 1000000 in
theorem deep_calls : ∀ (d : Nat) (v : Value) (w : World), VAt w d v → Calls Tryz.prog 62 #[v] w fun e w' => (∃ n : Int, e = .returned (.int .i64 n)) ∧ Ext w w' := by
  intro d
  induction d with
  | zero => intro v w h; exact h.elim
  | succ d ih =>
    rintro v w ⟨k, bo, n, m, s, a, nl, cl, a2, nk, ck, rfl, h1, h2, h3, h4, h5⟩
    have H4 := Lib.hid h4
    have IH := Lib.hid ih
    clear h4 h5 ih
    have k5 := cells_new w #[.int .i64 k, .bool bo, .int .i64 n, .int .i64 m, .string s, .slice a nl cl, .slice a2 nk ck] 25 (i := 5) (v := .slice a nl cl) rfl
    have hx0 := Lib.hid ((Ext.refl w).alloc (.cells #[.int .i64 k, .bool bo, .int .i64 n, .int .i64 m, .string s, .slice a nl cl, .slice a2 nk ck] 25))
    go_enter Tryz.func62, Tryz.ntmps62
    go_wp2
    generalize World.alloc w _ = w1 at *
    go_loopw [3, 4] (fun nn i wr => (∃ q : Int, nn = .int .i64 q) ∧ (∃ j : Nat, j ≤ nl ∧ i = .int .i64 j) ∧ Ext w1 wr) (fun _ i _ => nl - (intOf i).toNat)
    case atStart => exact ⟨⟨_, rfl⟩, ⟨0, Nat.zero_le _, rfl⟩, Ext.refl _⟩
    case round =>
      obtain ⟨⟨q, rfl⟩, ⟨j, hj, rfl⟩, hx1⟩ := hrel
      have k5' := hx1.cell_some k5
      by_cases hlt : j < nl
      · obtain ⟨b, off, rfl, hc⟩ := H4.out (by omega)
        obtain ⟨x0, x1, x2, x3, x4, x5, x6, c0, c1, c2, c3, c4, c5, c6, hv⟩ := hc j hlt
        have hxx := hx0.out.trans hx1
        have d0 := hxx.cell_some c0
        have d1 := hxx.cell_some c1
        have d2 := hxx.cell_some c2
        have d3 := hxx.cell_some c3
        have d4 := hxx.cell_some c4
        have d5 := hxx.cell_some c5
        have d6 := hxx.cell_some c6
        have HV := Lib.hid (VAt.ext hxx _ _ hv)
        have HX := Lib.hid hx1
        clear hc hv c0 c1 c2 c3 c4 c5 c6 hxx hx1 k5
        go_wp2_with (go_at_call 62; refine (IH.out _ _ HV.out).mono ?_; rintro e w2 ⟨⟨q2, rfl⟩, hx2⟩)
        have hM : maxLen ≤ 9223372036854775807 := by decide
        have hW : wrap64 ((j : Int) + 1) = ((j + 1 : Nat) : Int) := by unfold wrap64; omega
        go_roundw
        case rel => exact ⟨⟨_, rfl⟩, ⟨j + 1, by omega, by rw [hW]⟩, HX.out.trans hx2⟩
        case measure => rw [hW]; simp [intOf]; omega
      · obtain rfl : j = nl := by omega
        have HX := Lib.hid hx1
        clear hx1 k5
        go_wp2
        go_ret
        exact ⟨⟨_, rfl⟩, hx0.out.trans HX.out⟩
end Go.Proofs.YtbnmjdmbdoehlaaGreatDoor
