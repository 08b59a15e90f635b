/- The law: of no job nothing comes. -/
import Derived.Test.YtbnmjdmbdoehlaaGreatDoorGb
import Derived.Test.YtbnmjdmbdoehlaaGreatDoorGc
namespace Go.Proofs.YtbnmjdmbdoehlaaGreatDoor
open Go.RowKit
set_option maxRecDepth 100000

set_option maxHeartbeats 4000000 in
theorem lifeNone_calls (hawake : ∀ w : World, Calls Tryz.prog 49 #[] w fun e w' => e = .returned (.bool true) ∧ Ext w w') (num : Int) (a1 : Option Addr) (l1 c1 : Nat) (k : Int) (bo : Bool) (n m : Int) (s : ByteArray) (a : Option Addr) (nl cl : Nat) (a2 : Option Addr) (nk ck : Nat)
    (a9 : Option Addr) (l9 c9 : Nat) (a10 : Option Addr) (l10 c10 : Nat) (a11 : Option Addr) (l11 c11 : Nat) (d : Nat) (w : World) (hV : VAt w d (.agg #[.int .i64 k, .bool bo, .int .i64 n, .int .i64 m, .string s, .slice a nl cl, .slice a2 nk ck])) :
    Calls Tryz.prog 10 #[.agg #[.int .i64 num, .slice a1 l1 c1, .int .i64 k, .bool bo, .int .i64 n, .int .i64 m, .string s, .slice a nl cl, .slice a2 nk ck, .slice a9 l9 c9, .slice a10 l10 c10, .slice a11 l11 c11]] w fun e w' => e = .returned (.bool true) ∧ Ext w w' := by
  have HV := Lib.hid (VAt.ext ((Ext.refl w).alloc (.cells #[.int .i64 num, .slice a1 l1 c1, .int .i64 k, .bool bo, .int .i64 n, .int .i64 m, .string s, .slice a nl cl, .slice a2 nk ck, .slice a9 l9 c9, .slice a10 l10 c10, .slice a11 l11 c11] 134)) _ _ hV)
  have HX := Lib.hid ((Ext.refl w).alloc (.cells #[.int .i64 num, .slice a1 l1 c1, .int .i64 k, .bool bo, .int .i64 n, .int .i64 m, .string s, .slice a nl cl, .slice a2 nk ck, .slice a9 l9 c9, .slice a10 l10 c10, .slice a11 l11 c11] 134))
  have k0 := cells_new w #[.int .i64 num, .slice a1 l1 c1, .int .i64 k, .bool bo, .int .i64 n, .int .i64 m, .string s, .slice a nl cl, .slice a2 nk ck, .slice a9 l9 c9, .slice a10 l10 c10, .slice a11 l11 c11] 134 (i := 0) (v := .int .i64 num) rfl
  have k1 := cells_new w #[.int .i64 num, .slice a1 l1 c1, .int .i64 k, .bool bo, .int .i64 n, .int .i64 m, .string s, .slice a nl cl, .slice a2 nk ck, .slice a9 l9 c9, .slice a10 l10 c10, .slice a11 l11 c11] 134 (i := 1) (v := .slice a1 l1 c1) rfl
  have k11 := cells_new w #[.int .i64 num, .slice a1 l1 c1, .int .i64 k, .bool bo, .int .i64 n, .int .i64 m, .string s, .slice a nl cl, .slice a2 nk ck, .slice a9 l9 c9, .slice a10 l10 c10, .slice a11 l11 c11] 134 (i := 11) (v := .slice a11 l11 c11) rfl
  clear hV
  go_enter Tryz.func10, Tryz.ntmps10
  go_wp2_with (first
    | (go_at_call 12; refine (great_calls _ _ _ HV.out).mono ?_; rintro e w1 ⟨⟨q, rfl⟩, hx1⟩; have j0 := hx1.cell_some k0; have j1 := hx1.cell_some k1; have j11 := hx1.cell_some k11)
    | (go_at_call 49; refine (hawake _).mono ?_; rintro e w2 ⟨rfl, hx2⟩; try have i0 := hx2.cell_some j0)
    | (go_at_call 58; refine (ask_nil _).mono ?_; rintro e w3 ⟨rfl, hx3⟩; unfold req0; have i3 := hx3.cell_some i0)
    | (go_at_call 55; refine (done_nil _).mono ?_; rintro e w4 ⟨rfl, hx4⟩; unfold end0; have i4 := hx4.cell_some (Lib.cell?_alloc_some _ i3); have i5 := fun o : Obj => Lib.cell?_alloc_some o i4)
    | (go_at_call 59; refine (answer_nil _ _).mono ?_; rintro e w5 ⟨rfl, hx5⟩)
    | (go_at_call 57; refine (calls_nil _).mono ?_; rintro e w6 ⟨rfl, hx6⟩))
  all_goals have hx0 := HX.out
  all_goals go_ret
  all_goals exact ⟨rfl, (by repeat (first | exact Ext.refl _ | assumption | refine Ext.alloc ?_ _ | refine Ext.drew ?_ | refine Ext.setCell ?_ (by simp) _ | refine Ext.trans ?_ (by assumption)))⟩
end Go.Proofs.YtbnmjdmbdoehlaaGreatDoor
