/- HostRefuses: names by the document, addresses, rules that may not be. -/
import Derived.Test.YtamcfjjnaolpmaaGreatDoorHk
namespace Go.Proofs.YtamcfjjnaolpmaaGreatDoor
open Go.RowKit
set_option maxRecDepth 100000

theorem addr_calls (a b c : ByteArray) (n : Int) (w : World) : Calls Tryz.prog 23 #[.agg #[.string a, .string b, .string c, .int .i64 n]] w fun e w' => e = .returned (.agg #[.string a, .string b, .string c, .int .i64 n]) ∧ Ext w w' := by
  go_enter Tryz.func23, Tryz.ntmps23
  go_wp2
  exact bodyPost_ret (v := .agg #[.string a, .string b, .string c, .int .i64 n]) (by simp [results, Tryz.results23, go_sem]) rfl ⟨rfl, (by repeat (first | exact Ext.refl _ | assumption | refine Ext.alloc ?_ _ | refine Ext.drew ?_ | refine Ext.setCell ?_ (by simp) _ | refine Ext.trans ?_ (by assumption)))⟩

set_option maxHeartbeats 2000000 in
theorem right_no {b c t k : Int} (h : ¬ RightR b c t k) (w : World) : Calls Tryz.prog 21 #[.agg #[.int .i64 b, .int .i64 c, .int .i64 t, .int .i64 k]] w fun e w' => e = .returned (.bool false) ∧ Ext w w' := by
  unfold RightR at h
  cases d1 : decide (1 ≤ b ∧ b ≤ c) <;> cases d2 : decide (1 ≤ c ∧ c ≤ 1000000) <;> cases d3 : decide (1 ≤ t ∧ t ≤ 100) <;> cases d4 : decide (1 ≤ k ∧ k ≤ 1000000)
  all_goals first
    | (exfalso; simp only [decide_eq_true_eq] at d1 d2 d3 d4; exact h ⟨d1, d2, d3, d4⟩)
    | (clear h
       go_enter Tryz.func21, Tryz.ntmps21
       go_wp2_with (go_at_call 52; refine (in_calls _ _ _).mono ?_; rintro e w2 ⟨rfl, rfl⟩)
       all_goals go_ret
       all_goals exact ⟨rfl, (by repeat (first | exact Ext.refl _ | assumption | refine Ext.alloc ?_ _ | refine Ext.drew ?_ | refine Ext.setCell ?_ (by simp) _ | refine Ext.trans ?_ (by assumption)))⟩)

theorem backoffNew_no {b c t k : Int} (h : ¬ RightR b c t k) (w : World) : Calls Tryz.prog 54 #[.agg #[.int .i64 b, .int .i64 c, .int .i64 t, .int .i64 k]] w fun e w' => e = .returned (.tuple #[.pointer none, .int .i64 1]) ∧ Ext w w' := by
  go_enter Tryz.func54, Tryz.ntmps54
  go_wp2_with (go_at_call 21; refine (right_no h _).mono ?_; rintro e w2 ⟨rfl, hx2⟩)
  go_ret2
  exact ⟨rfl, (by repeat (first | exact Ext.refl _ | assumption | refine Ext.alloc ?_ _ | refine Ext.drew ?_ | refine Ext.setCell ?_ (by simp) _ | refine Ext.trans ?_ (by assumption)))⟩

theorem sessionNew_no {l t : Int} (h : ¬ RightS l t) (w : World) : Calls Tryz.prog 55 #[.int .i64 l, .int .i64 t] w fun e w' => e = .returned (.tuple #[.pointer none, .int .i64 1]) ∧ Ext w w' := by
  unfold RightS at h
  by_cases h1 : l < 64 <;> by_cases h2 : 4096 < l <;> by_cases h3 : t < 1 <;> by_cases h4 : 1000000 < t
  all_goals first
    | (exfalso; omega)
    | (clear h
       go_enter Tryz.func55, Tryz.ntmps55
       go_wp2
       go_ret2
       exact ⟨rfl, (by repeat (first | exact Ext.refl _ | assumption | refine Ext.alloc ?_ _ | refine Ext.drew ?_ | refine Ext.setCell ?_ (by simp) _ | refine Ext.trans ?_ (by assumption)))⟩)

theorem superviseNew_no {b c t k l u : Int} (h : ¬ (RightR b c t k ∧ RightS l u)) (w : World) : Calls Tryz.prog 27 #[.agg #[.int .i64 b, .int .i64 c, .int .i64 t, .int .i64 k], .int .i64 l, .int .i64 u] w
    fun e w' => e = .returned (.tuple #[.pointer none, .int .i64 1]) ∧ Ext w w' := by
  by_cases hr : RightR b c t k
  · have hs : ¬ RightS l u := fun hs => h ⟨hr, hs⟩
    go_enter Tryz.func27, Tryz.ntmps27
    go_wp2_with (first
      | (go_at_call 54; refine (backoffNew_yes hr _).mono ?_; rintro e w2 ⟨⟨p, rfl⟩, hx2⟩)
      | (go_at_call 55; refine (sessionNew_no hs _).mono ?_; rintro e w3 ⟨rfl, hx3⟩))
    go_ret2
    exact ⟨rfl, (by repeat (first | exact Ext.refl _ | assumption | refine Ext.alloc ?_ _ | refine Ext.drew ?_ | refine Ext.setCell ?_ (by simp) _ | refine Ext.trans ?_ (by assumption)))⟩
  · go_enter Tryz.func27, Tryz.ntmps27
    go_wp2_with (go_at_call 54; refine (backoffNew_no hr _).mono ?_; rintro e w2 ⟨rfl, hx2⟩)
    go_ret2
    exact ⟨rfl, (by repeat (first | exact Ext.refl _ | assumption | refine Ext.alloc ?_ _ | refine Ext.drew ?_ | refine Ext.setCell ?_ (by simp) _ | refine Ext.trans ?_ (by assumption)))⟩
end Go.Proofs.YtamcfjjnaolpmaaGreatDoor
