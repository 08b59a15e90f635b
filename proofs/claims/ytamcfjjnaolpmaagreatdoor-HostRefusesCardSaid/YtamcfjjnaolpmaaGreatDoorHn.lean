/- HostRefuses: of no provider; adding what may not be. -/
import Derived.Test.YtamcfjjnaolpmaaGreatDoorHl
namespace Go.Proofs.YtamcfjjnaolpmaaGreatDoor
open Go.RowKit
set_option maxRecDepth 100000

section
variable {w : World} {h m s sm n : Nat} {D : DataW Value} {now : Int} {name : ByteArray}

theorem event_no (H : HostAt w h m s sm n D now) (hs : name.size ≤ 4294967296) (hat : ∀ zd, D.atKey (.string name.data.toList) zd = zd) (f : Value) :
    Calls Tryz.prog 32 #[.pointer (some ⟨h, 0, none⟩), .string name, f] w fun e w' => e = .returned (.tuple #[.slice none 0 0, .int .i64 7]) ∧ w' = w := by
  have HH := Lib.hid H
  have HA := Lib.hid hat
  clear H hat
  go_enter Tryz.func32, Tryz.ntmps32
  go_wp2_with (go_at_call 29; refine (of_no HH.out hs HA.out).mono ?_; rintro e w1 ⟨rfl, rfl⟩)
  go_ret2
  exact ⟨rfl, rfl⟩

theorem feed_no (H : HostAt w h m s sm n D now) (hs : name.size ≤ 4294967296) (hat : ∀ zd, D.atKey (.string name.data.toList) zd = zd) (a : Option Addr) (k c : Nat) :
    Calls Tryz.prog 9 #[.pointer (some ⟨h, 0, none⟩), .string name, .slice a k c] w fun e w' => e = .returned (.tuple #[.slice none 0 0, .int .i64 7]) ∧ Ext w w' := by
  have HH := Lib.hid (H.ext (((Ext.refl w).alloc (.cells #[.pointer (some ⟨h, 0, none⟩)] 24)).alloc (.cells #[.slice a k c] 22)))
  have HA := Lib.hid hat
  clear H hat
  go_enter Tryz.func9, Tryz.ntmps9
  go_wp2_with (go_at_call 32; refine (event_no HH.out hs HA.out _).mono ?_; rintro e w1 ⟨rfl, rfl⟩)
  go_ret2
  exact ⟨rfl, (by repeat (first | exact Ext.refl _ | assumption | refine Ext.alloc ?_ _ | refine Ext.drew ?_ | refine Ext.setCell ?_ (by simp) _ | refine Ext.trans ?_ (by assumption)))⟩

theorem gone_no (H : HostAt w h m s sm n D now) (hs : name.size ≤ 4294967296) (hat : ∀ zd, D.atKey (.string name.data.toList) zd = zd) :
    Calls Tryz.prog 10 #[.pointer (some ⟨h, 0, none⟩), .string name] w fun e w' => e = .returned (.tuple #[.slice none 0 0, .int .i64 7]) ∧ Ext w w' := by
  have HH := Lib.hid (H.ext ((Ext.refl w).alloc (.cells #[.pointer (some ⟨h, 0, none⟩)] 24)))
  have HA := Lib.hid hat
  clear H hat
  go_enter Tryz.func10, Tryz.ntmps10
  go_wp2_with (go_at_call 32; refine (event_no HH.out hs HA.out _).mono ?_; rintro e w1 ⟨rfl, rfl⟩)
  go_ret2
  exact ⟨rfl, (by repeat (first | exact Ext.refl _ | assumption | refine Ext.alloc ?_ _ | refine Ext.drew ?_ | refine Ext.setCell ?_ (by simp) _ | refine Ext.trans ?_ (by assumption)))⟩

theorem spawned_no (H : HostAt w h m s sm n D now) (hs : name.size ≤ 4294967296) (hat : ∀ zd, D.atKey (.string name.data.toList) zd = zd) (b : Bool) :
    Calls Tryz.prog 8 #[.pointer (some ⟨h, 0, none⟩), .string name, .bool b] w fun e w' => e = .returned (.tuple #[.slice none 0 0, .int .i64 7]) ∧ Ext w w' := by
  have HH := Lib.hid (H.ext (((Ext.refl w).alloc (.cells #[.pointer (some ⟨h, 0, none⟩)] 24)).alloc (.cells #[.bool b] 4)))
  have HA := Lib.hid hat
  clear H hat
  go_enter Tryz.func8, Tryz.ntmps8
  go_wp2_with (go_at_call 32; refine (event_no HH.out hs HA.out _).mono ?_; rintro e w1 ⟨rfl, rfl⟩)
  go_ret2
  exact ⟨rfl, (by repeat (first | exact Ext.refl _ | assumption | refine Ext.alloc ?_ _ | refine Ext.drew ?_ | refine Ext.setCell ?_ (by simp) _ | refine Ext.trans ?_ (by assumption)))⟩

theorem state_no (H : HostAt w h m s sm n D now) (hs : name.size ≤ 4294967296) (hat : ∀ zd, D.atKey (.string name.data.toList) zd = zd) :
    Calls Tryz.prog 12 #[.pointer (some ⟨h, 0, none⟩), .string name] w fun e w' => e = .returned (.tuple #[.int .i64 0, .bool false]) ∧ w' = w := by
  have HH := Lib.hid H
  have HA := Lib.hid hat
  clear H hat
  go_enter Tryz.func12, Tryz.ntmps12
  go_wp2_with (go_at_call 29; refine (of_no HH.out hs HA.out).mono ?_; rintro e w1 ⟨rfl, rfl⟩)
  go_ret2
  exact ⟨rfl, rfl⟩

theorem waiting_no (H : HostAt w h m s sm n D now) (hs : name.size ≤ 4294967296) (hat : ∀ zd, D.atKey (.string name.data.toList) zd = zd) :
    Calls Tryz.prog 15 #[.pointer (some ⟨h, 0, none⟩), .string name] w fun e w' => e = .returned (.int .i64 0) ∧ w' = w := by
  have HH := Lib.hid H
  have HA := Lib.hid hat
  clear H hat
  go_enter Tryz.func15, Tryz.ntmps15
  go_wp2_with (go_at_call 29; refine (of_no HH.out hs HA.out).mono ?_; rintro e w1 ⟨rfl, rfl⟩)
  go_ret
  exact ⟨rfl, rfl⟩

theorem busy_no (H : HostAt w h m s sm n D now) (hs : name.size ≤ 4294967296) (hat : ∀ zd, D.atKey (.string name.data.toList) zd = zd) :
    Calls Tryz.prog 16 #[.pointer (some ⟨h, 0, none⟩), .string name] w fun e w' => e = .returned (.bool false) ∧ w' = w := by
  have HH := Lib.hid H
  have HA := Lib.hid hat
  clear H hat
  go_enter Tryz.func16, Tryz.ntmps16
  go_wp2_with (go_at_call 29; refine (of_no HH.out hs HA.out).mono ?_; rintro e w1 ⟨rfl, rfl⟩)
  go_ret
  exact ⟨rfl, rfl⟩

theorem do_no (H : HostAt w h m s sm n D now) (hs : name.size ≤ 4294967296) (hat : ∀ zd, D.atKey (.string name.data.toList) zd = zd) (k : Int) (b c : ByteArray) (i : Int) :
    Calls Tryz.prog 11 #[.pointer (some ⟨h, 0, none⟩), .agg #[.int .i64 k, .string name, .string b, .string c, .int .i64 i, .nilIface, .slice none 0 0, .string ByteArray.empty]] w
      fun e w' => e = .returned (.tuple #[.int .i64 0, .slice none 0 0, .int .i64 7]) ∧ Ext w w' := by
  have HH := Lib.hid (H.ext ((Ext.refl w).alloc (.cells #[.int .i64 k, .string name, .string b, .string c, .int .i64 i, .nilIface, .slice none 0 0, .string ByteArray.empty] 45)))
  have HA := Lib.hid hat
  clear H hat
  go_enter Tryz.func11, Tryz.ntmps11
  go_wp2_with (go_at_call 29; refine (of_no HH.out hs HA.out).mono ?_; rintro e w1 ⟨rfl, rfl⟩)
  go_ret3
  exact ⟨rfl, (by repeat (first | exact Ext.refl _ | assumption | refine Ext.alloc ?_ _ | refine Ext.drew ?_ | refine Ext.setCell ?_ (by simp) _ | refine Ext.trans ?_ (by assumption)))⟩

theorem add_unnamed (H : HostAt w h m s sm n D now) (hs : name.size ≤ 4294967296) (hnm : namedB name.data.toList = false) (b c t k lim wt pat : Int) :
    Calls Tryz.prog 6 #[.pointer (some ⟨h, 0, none⟩), .string name, .agg #[.int .i64 b, .int .i64 c, .int .i64 t, .int .i64 k, .int .i64 lim, .int .i64 wt, .int .i64 pat]] w
      fun e w' => e = .returned (.tuple #[.slice none 0 0, .int .i64 7]) ∧ Ext w w' := by
  have hnamed := Lib.hid (fun w => by have := named_calls name hs w; rw [hnm] at this; exact this)
  clear H
  go_enter Tryz.func6, Tryz.ntmps6
  go_wp2_with (go_at_call 26; refine (hnamed.out _).mono ?_; rintro e w1 ⟨rfl, rfl⟩)
  go_ret2
  exact ⟨rfl, (by repeat (first | exact Ext.refl _ | assumption | refine Ext.alloc ?_ _ | refine Ext.drew ?_ | refine Ext.setCell ?_ (by simp) _ | refine Ext.trans ?_ (by assumption)))⟩

theorem add_twice (H : HostAt w h m s sm n D now) (hs : name.size ≤ 4294967296) (hnm : namedB name.data.toList = true) {p : Nat} (hat : ∀ zd, D.atKey (.string name.data.toList) zd = .held (.pointer (some ⟨p, 0, none⟩))) (b c t k lim wt pat : Int) :
    Calls Tryz.prog 6 #[.pointer (some ⟨h, 0, none⟩), .string name, .agg #[.int .i64 b, .int .i64 c, .int .i64 t, .int .i64 k, .int .i64 lim, .int .i64 wt, .int .i64 pat]] w
      fun e w' => e = .returned (.tuple #[.slice none 0 0, .int .i64 9]) ∧ Ext w w' := by
  obtain ⟨c0, c1, c2, f2, hh⟩ := H.facts
  have hx0 : Ext w (w.alloc (.cells #[.int .i64 b, .int .i64 c, .int .i64 t, .int .i64 k, .int .i64 lim, .int .i64 wt, .int .i64 pat] 32)) := (Ext.refl w).alloc _
  have HM := Lib.hid (own_ext hx0 H.map)
  have HK := Lib.hid (hkey hs)
  have HA := Lib.hid hat
  have hnamed := Lib.hid (fun w => by have := named_calls name hs w; rw [hnm] at this; exact this)
  clear H hat hx0
  go_enter Tryz.func6, Tryz.ntmps6
  go_wp2_with (first
    | (go_at_call 26; refine (hnamed.out _).mono ?_; rintro e w1 ⟨rfl, rfl⟩)
    | (at_lookup; refine wpList_look_yes rfl false 81 9 80 _ _ rfl Tryz.underlying81 hstr_keyed (Tryz.zeroValue80 _) rfl HM.out HK.out rfl HA.out ?_))
  go_ret2
  exact ⟨rfl, (by repeat (first | exact Ext.refl _ | assumption | refine Ext.alloc ?_ _ | refine Ext.drew ?_ | refine Ext.setCell ?_ (by simp) _ | refine Ext.trans ?_ (by assumption)))⟩

theorem add_bad (H : HostAt w h m s sm 0 (.map []) now) (hs : name.size ≤ 4294967296) (hnm : namedB name.data.toList = true) {b c t k lim wt pat : Int} (hr : ¬ (RightR b c t k ∧ RightS lim wt ∧ 1 ≤ pat ∧ pat ≤ 1000000)) :
    Calls Tryz.prog 6 #[.pointer (some ⟨h, 0, none⟩), .string name, .agg #[.int .i64 b, .int .i64 c, .int .i64 t, .int .i64 k, .int .i64 lim, .int .i64 wt, .int .i64 pat]] w
      fun e w' => e = .returned (.tuple #[.slice none 0 0, .int .i64 1]) ∧ Ext w w' := by
  obtain ⟨c0, c1, c2, f2, hh⟩ := H.facts
  have hx0 : Ext w (w.alloc (.cells #[.int .i64 b, .int .i64 c, .int .i64 t, .int .i64 k, .int .i64 lim, .int .i64 wt, .int .i64 pat] 32)) := (Ext.refl w).alloc _
  have k6 := cells_new w #[.int .i64 b, .int .i64 c, .int .i64 t, .int .i64 k, .int .i64 lim, .int .i64 wt, .int .i64 pat] 32 (i := 6) (v := .int .i64 pat) rfl
  have HM := Lib.hid (own_ext hx0 H.map)
  have hlen := fun ty => HM.out.len (t := 81) Tryz.underlying81 ty
  rw [show Maps.size (.map [] : DataW Value) = 0 from rfl] at hlen
  have HK := Lib.hid (hkey hs)
  have hnamed := Lib.hid (fun w => by have := named_calls name hs w; rw [hnm] at this; exact this)
  by_cases hR : RightR b c t k ∧ RightS lim wt
  · have hp : ¬ (1 ≤ pat ∧ pat ≤ 1000000) := fun hp => hr ⟨hR.1, hR.2, hp⟩
    by_cases h1 : pat < 1
    · clear H hx0 hr hp
      go_enter Tryz.func6, Tryz.ntmps6
      go_wp2_with (first
        | (go_at_call 26; refine (hnamed.out _).mono ?_; rintro e w1 ⟨rfl, rfl⟩)
        | (at_lookup; refine wpList_look_no rfl false 81 9 80 _ _ rfl Tryz.underlying81 hstr_keyed (Tryz.zeroValue80 _) rfl HM.out HK.out rfl (fun zd => rfl) ?_)
        | (go_at_call 27; refine (superviseNew_yes hR.1 hR.2 _).mono ?_; rintro e w3 ⟨g, rfl, hg3, hk3, hx3⟩; have k63 := hx3.cell_some k6))
      go_ret2
      exact ⟨rfl, (by repeat (first | exact Ext.refl _ | assumption | refine Ext.alloc ?_ _ | refine Ext.drew ?_ | refine Ext.setCell ?_ (by simp) _ | refine Ext.trans ?_ (by assumption)))⟩
    · have h2 : (1000000 : Int) < pat := by omega
      clear H hx0 hr hp
      go_enter Tryz.func6, Tryz.ntmps6
      go_wp2_with (first
        | (go_at_call 26; refine (hnamed.out _).mono ?_; rintro e w1 ⟨rfl, rfl⟩)
        | (at_lookup; refine wpList_look_no rfl false 81 9 80 _ _ rfl Tryz.underlying81 hstr_keyed (Tryz.zeroValue80 _) rfl HM.out HK.out rfl (fun zd => rfl) ?_)
        | (go_at_call 27; refine (superviseNew_yes hR.1 hR.2 _).mono ?_; rintro e w3 ⟨g, rfl, hg3, hk3, hx3⟩; have k63 := hx3.cell_some k6))
      go_ret2
      exact ⟨rfl, (by repeat (first | exact Ext.refl _ | assumption | refine Ext.alloc ?_ _ | refine Ext.drew ?_ | refine Ext.setCell ?_ (by simp) _ | refine Ext.trans ?_ (by assumption)))⟩
  · clear H hx0 hr
    go_enter Tryz.func6, Tryz.ntmps6
    go_wp2_with (first
      | (go_at_call 26; refine (hnamed.out _).mono ?_; rintro e w1 ⟨rfl, rfl⟩)
      | (at_lookup; refine wpList_look_no rfl false 81 9 80 _ _ rfl Tryz.underlying81 hstr_keyed (Tryz.zeroValue80 _) rfl HM.out HK.out rfl (fun zd => rfl) ?_)
      | (go_at_call 27; refine (superviseNew_no hR _).mono ?_; rintro e w3 ⟨rfl, hx3⟩))
    go_ret2
    exact ⟨rfl, (by repeat (first | exact Ext.refl _ | assumption | refine Ext.alloc ?_ _ | refine Ext.drew ?_ | refine Ext.setCell ?_ (by simp) _ | refine Ext.trans ?_ (by assumption)))⟩
end
end Go.Proofs.YtamcfjjnaolpmaaGreatDoor
