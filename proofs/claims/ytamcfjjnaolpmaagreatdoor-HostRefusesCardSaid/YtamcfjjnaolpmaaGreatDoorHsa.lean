/- Struct arguments opened: a Setting, an A. -/
import Derived.Test.YtamcfjjnaolpmaaGreatDoorE0
import Derived.WideShapes
namespace Go.Proofs.YtamcfjjnaolpmaaGreatDoor
open Go.RowKit
set_option maxRecDepth 100000
theorem okWide_cells {P : Program} {w : World} {r : Reach} {base : Nat} {t : TypeId} {fs : Array Field} {ts : List TypeId} {v : Value} (ht : P.underlying t = some (.struct fs)) (hct : P.cellTypes P.depth t = some ts) (hn : P.cellsOf t = ts.length)
    (h : Value.okWide P w r base t v) : ∃ cs : Array Value, v = .agg cs ∧ cs.size = ts.length ∧ ∀ (i : Nat) x, cs[i]? = some x → ∃ u, ts[i]? = some u ∧ Cell.okWide P w r base u x := by
  simp only [Value.okWide, ht] at h
  obtain ⟨cs, rfl, hs, ts', h1, _, h3⟩ := h
  obtain rfl : ts' = ts := Option.some.inj (h1.symm.trans hct)
  refine ⟨cs, rfl, hs.trans hn, fun i x hx => ?_⟩
  obtain ⟨u, hu, ho⟩ := h3 i x hx
  have hi : i < ts'.length := by have := (Array.getElem?_eq_some_iff.1 hx).1; omega
  rw [Nat.mod_eq_of_lt hi] at hu
  exact ⟨u, hu, ho⟩

theorem cell_int {P : Program} {w : World} {r : Reach} {base : Nat} {t : TypeId} {k : IntKind} {v : Value} (ht : P.underlying t = some (.int k)) (h : Cell.okWide P w r base t v) : ∃ n, v = .int k n := by
  simp only [Cell.okWide, ht] at h
  cases v <;> simp_all [Cell.ok]

theorem cell_string {P : Program} {w : World} {r : Reach} {base : Nat} {t : TypeId} {v : Value} (ht : P.underlying t = some .string) (h : Cell.okWide P w r base t v) : ∃ s, v = .string s := by
  simp only [Cell.okWide, ht] at h
  cases v <;> simp_all [Cell.ok]

theorem setting_shape {w : World} {r : Reach} {base : Nat} {v : Value} (h : Value.okWide Tryz.prog w r base 32 v) :
    ∃ b c t k lim wt pat, v = .agg #[.int .i64 b, .int .i64 c, .int .i64 t, .int .i64 k, .int .i64 lim, .int .i64 wt, .int .i64 pat] := by
  obtain ⟨cs, rfl, hs, hc⟩ := okWide_cells (ts := [3, 3, 3, 3, 3, 3, 3]) Tryz.underlying32 (by kernel_rfl) (by kernel_rfl) h
  have get : ∀ i (hi : i < 7), ∃ n, cs[i]'(by rw [hs]; exact hi) = .int .i64 n := by
    intro i hi
    obtain ⟨u, hu, ho⟩ := hc i _ (Array.getElem?_eq_getElem (by rw [hs]; exact hi))
    obtain rfl : u = 3 := by
      have : [3, 3, 3, 3, 3, 3, 3][i]? = some 3 := by
        rcases i with _ | _ | _ | _ | _ | _ | _ | _ <;> first | rfl | omega
      exact Option.some.inj (hu.symm.trans this)
    exact cell_int Tryz.underlying3 ho
  obtain ⟨n0, e0⟩ := get 0 (by decide)
  obtain ⟨n1, e1⟩ := get 1 (by decide)
  obtain ⟨n2, e2⟩ := get 2 (by decide)
  obtain ⟨n3, e3⟩ := get 3 (by decide)
  obtain ⟨n4, e4⟩ := get 4 (by decide)
  obtain ⟨n5, e5⟩ := get 5 (by decide)
  obtain ⟨n6, e6⟩ := get 6 (by decide)
  refine ⟨n0, n1, n2, n3, n4, n5, n6, ?_⟩
  congr 1
  apply Array.ext
  · exact hs
  · intro i hi hj
    rcases i with _ | _ | _ | _ | _ | _ | _ | i
    · exact e0
    · exact e1
    · exact e2
    · exact e3
    · exact e4
    · exact e5
    · exact e6
    · exact absurd hj (by simp)

theorem a_shape {w : World} {r : Reach} {base : Nat} {v : Value} (h : Value.okWide Tryz.prog w r base 59 v) :
    ∃ x0 x1 x2 ix, v = .agg #[.string x0, .string x1, .string x2, .int .i64 ix] := by
  obtain ⟨cs, rfl, hs, hc⟩ := okWide_cells (ts := [9, 9, 9, 3]) Tryz.underlying59 (by kernel_rfl) (by kernel_rfl) h
  have get : ∀ i (hi : i < 3), ∃ n, cs[i]'(by rw [hs]; simp; omega) = .string n := by
    intro i hi
    obtain ⟨u, hu, ho⟩ := hc i _ (Array.getElem?_eq_getElem (by rw [hs]; simp; omega))
    obtain rfl : u = 9 := by
      have : [9, 9, 9, 3][i]? = some 9 := by
        rcases i with _ | _ | _ | _ <;> first | rfl | omega
      exact Option.some.inj (hu.symm.trans this)
    exact cell_string Tryz.underlying9 ho
  obtain ⟨n0, e0⟩ := get 0 (by decide)
  obtain ⟨n1, e1⟩ := get 1 (by decide)
  obtain ⟨n2, e2⟩ := get 2 (by decide)
  have g3 : ∃ n, cs[3]'(by rw [hs]; decide) = .int .i64 n := by
    obtain ⟨u, hu, ho⟩ := hc 3 _ (Array.getElem?_eq_getElem (by rw [hs]; decide))
    obtain rfl : u = 3 := Option.some.inj (hu.symm.trans rfl)
    exact cell_int Tryz.underlying3 ho
  obtain ⟨n3, e3⟩ := g3
  refine ⟨n0, n1, n2, n3, ?_⟩
  congr 1
  apply Array.ext
  · exact hs
  · intro i hi hj
    rcases i with _ | _ | _ | _ | i
    · exact e0
    · exact e1
    · exact e2
    · exact e3
    · exact absurd hj (by simp)

end Go.Proofs.YtamcfjjnaolpmaaGreatDoor
