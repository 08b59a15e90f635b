/- State; the example of package host's statements; HostNone. -/
import Derived.Test.YtamcfjjnaolpmaaGreatDoorHg
import Derived.Test.YtamcfjjnaolpmaaGreatDoorHe
namespace Go.Proofs.YtamcfjjnaolpmaaGreatDoor
open Go.RowKit
set_option maxRecDepth 100000

theorem ProvAt.facts {w : World} {p k q : Nat} {name : ByteArray} {lim wt st pat : Int} (P : ProvAt w p k q name lim wt st pat) :
    w.cell? ⟨p, 0, none⟩ = some (.pointer (some ⟨k, 0, none⟩)) ∧ w.cell? ⟨p, 2, none⟩ = some (.int .i64 pat) ∧ w.cell? ⟨p, 3, none⟩ = some (.pointer (some ⟨q, 0, none⟩)) ∧ w.cell? ⟨p, 4, none⟩ = some (.pointer none) ∧ w.cell? ⟨k, 3, none⟩ = some (.int .i64 st) ∧ p < w.heap.size := by
  have h := P.cells
  refine ⟨?_, ?_, ?_, ?_, P.keep.facts.1, (Array.getElem?_eq_some_iff.1 h).1⟩ <;> simp [World.cell?, h, provObj]

theorem keepState {w : World} {k : Nat} {l t s : Int} (h : KeepAt w k l t s) : Calls Tryz.prog 39 #[.pointer (some ⟨k, 0, none⟩)] w fun e w' => e = .returned (.int .i64 s) ∧ w' = w := by
  obtain ⟨c3, f3, hl⟩ := h.facts
  go_enter Tryz.func39, Tryz.ntmps39
  go_wp2
  go_ret
  exact ⟨rfl, rfl⟩

theorem state_yes {w : World} {h m s sm n p k q : Nat} {D : DataW Value} {now : Int} (H : HostAt w h m s sm n D now) {name : ByteArray} (hs : name.size ≤ 4294967296) (hat : ∀ zd, D.atKey (.string name.data.toList) zd = .held (.pointer (some ⟨p, 0, none⟩))) {lim wt st pat : Int} (P : ProvAt w p k q name lim wt st pat) :
    Calls Tryz.prog 12 #[.pointer (some ⟨h, 0, none⟩), .string name] w fun e w' => e = .returned (.tuple #[.int .i64 st, .bool true]) ∧ Ext w w' := by
  obtain ⟨p0, p2, p3, p4, k3, hp⟩ := P.facts
  have q0 := fun o : Obj => Lib.cell?_alloc_some o p0
  have r0 : (w.alloc (runObj p h (.slice none 0 0))).cell? ⟨w.heap.size, 0, none⟩ = some (.pointer (some ⟨p, 0, none⟩)) := cells_new w _ _ rfl
  have hk := Lib.hid (P.keep.ext ((Ext.refl w).alloc (runObj p h (.slice none 0 0))))
  have HH := Lib.hid H
  have HA := Lib.hid hat
  clear H hat P
  go_enter Tryz.func12, Tryz.ntmps12
  go_wp2_with (first
    | (go_at_call 29; refine (of_yes HH.out hs HA.out).mono ?_; rintro e w6 ⟨rfl, rfl⟩)
    | (go_at_call 39; refine (keepState hk.out).mono ?_; rintro e w7 ⟨rfl, rfl⟩))
  go_ret2
  exact ⟨rfl, (Ext.refl w).alloc _⟩

theorem out_cells {w : World} {a : Option Addr} {c : Nat} {name : ByteArray} {kind : Int} (h : Slc w 20 (.slice a 1 c) 1 (outCells name kind).toList) :
    ∃ b o, a = some ⟨b, o, none⟩ ∧ w.cell? ⟨b, o, none⟩ = some (.string name) ∧ w.cell? ⟨b, o + 1, none⟩ = some (.int .i64 kind) := by
  obtain ⟨_, a', c', h, _, _, h3⟩ := h
  obtain ⟨rfl, _⟩ : a = a' ∧ c = c' := by simpa using h
  obtain ⟨b, o, rfl, hc⟩ := h3 (by omega)
  exact ⟨b, o, rfl, hc 0 _ rfl, hc 1 _ rfl⟩

def nameP : ByteArray := ⟨#[112]⟩

set_option maxHeartbeats 1000000 in
theorem awake_calls (w : World) : Calls Tryz.prog 5 #[] w fun e w' => e = .returned (.bool true) ∧ Ext w w' := by
  have hnp : nameP.toList = [112] := (ByteArray.toList_eq nameP).trans rfl
  go_enter Tryz.func5, Tryz.ntmps5
  go_wp2_with (first
    | (go_at_call 20; refine (hostNew_calls _).mono ?_; rintro e w1 ⟨h, m, s, sm, rfl, hm, hH, hx1⟩)
    | (go_at_call 7; refine (setting_calls _).mono ?_; rintro e w2 ⟨rfl, hx2⟩)
    | (go_at_call 6; go_loud (refine (add_calls (hH.ext hx2) (name := nameP) (by decide) (by decide) (by unfold RightR; decide) (by unfold RightS; decide) (by decide)).mono ?_; rintro e w3 ⟨lv, p, kk, q, rfl, hl, hH3, hP3, hkk, hg3⟩; obtain ⟨al, cl, rfl⟩ := Slc.is hl; obtain ⟨ob, oo, rfl, o0, o1⟩ := out_cells hl))
    | (go_at_call 12; refine (state_yes hH3 (by decide) (pMap_at _ _) hP3).mono ?_; rintro e w4 ⟨rfl, hx4⟩; have o0' := hx4.cell_some o0; have o1' := hx4.cell_some o1))
  go_ret
  have hx3 : Ext w w3 := Below.grown (hx1.trans hx2) hg3 (hx1.trans hx2).size (by intro j hj; cases hj; exact hm)
  exact ⟨rfl, hx3.trans hx4⟩

set_option maxHeartbeats 1000000 in
theorem hostNone_calls (name : ByteArray) (a : Option Addr) (k c : Nat) (n : Int) (w : World) :
    Calls Tryz.prog 3 #[.string name, .slice a k c, .int .i64 n] w fun e w' => e = .returned (.bool true) ∧ Ext w w' := by
  by_cases h1 : (60 : Int) < name.size
  · go_enter Tryz.func3, Tryz.ntmps3
    go_wp2_with (go_at_call 5; refine (awake_calls _).mono ?_; rintro e w1 ⟨rfl, hx1⟩)
    go_ret
    exact ⟨rfl, hx1⟩
  · by_cases h2 : (60 : Int) < k
    · go_enter Tryz.func3, Tryz.ntmps3
      go_wp2_with (go_at_call 5; refine (awake_calls _).mono ?_; rintro e w1 ⟨rfl, hx1⟩)
      go_ret
      exact ⟨rfl, hx1⟩
    · go_enter Tryz.func3, Tryz.ntmps3
      go_wp2_with (first
        | (go_at_call 5; refine (awake_calls _).mono ?_; rintro e w1 ⟨rfl, hx1⟩)
        | (go_at_call 7; refine (setting_calls _).mono ?_; rintro e w2 ⟨rfl, hx2⟩)
        | (go_at_call 6; refine (add_nil _ _ _).mono ?_; rintro e w3 ⟨rfl, hx3⟩)
        | (go_at_call 8; refine (spawned_nil _ _ _).mono ?_; rintro e w4 ⟨rfl, hx4⟩)
        | (go_at_call 9; refine (feed_nil _ _ _ _ _).mono ?_; rintro e w5 ⟨rfl, hx5⟩)
        | (go_at_call 10; refine (gone_nil _ _).mono ?_; rintro e w6 ⟨rfl, hx6⟩)
        | (go_at_call 11; refine (do_nil _).mono ?_; rintro e w7 ⟨rfl, hx7⟩)
        | (go_at_call 12; refine (state_nil _ _).mono ?_; rintro e w8 ⟨rfl, hx8⟩)
        | (go_at_call 13; refine (tick_nil _ _).mono ?_; rintro e w9 ⟨rfl, hx9⟩)
        | (go_at_call 14; refine (store_nil _).mono ?_; rintro e wa ⟨rfl, hxa⟩)
        | (go_at_call 15; refine (waiting_nil _ _).mono ?_; rintro e wb ⟨rfl, hxb⟩)
        | (go_at_call 16; refine (busy_nil _ _).mono ?_; rintro e wc ⟨rfl, hxc⟩)
        | (go_at_call 17; refine (now_nil _).mono ?_; rintro e wd ⟨rfl, hxd⟩)
        | (go_at_call 18; refine (names_nil _).mono ?_; rintro e we ⟨rfl, hxe⟩))
      go_ret
      exact ⟨rfl, ((((((((((((hx1.trans hx2).trans hx3).trans hx4).trans hx5).trans hx6).trans hx7).trans hx8).trans hx9).trans hxa).trans hxb).trans hxc).trans hxd).trans hxe⟩
end Go.Proofs.YtamcfjjnaolpmaaGreatDoor
