/- The keys of a map of values, sorted: out of the shelf's contracts. -/
import Derived.Shelf.SlIter.Nil
import Derived.Shelf.SortM.Plain
import Derived.Shelf.SortM.SortNone
import Derived.Test.YtamcfjjnaolpmaaGreatDoorLay
import Derived.Test.YtamcfjjnaolpmaaGreatDoorHg
namespace Go.Proofs.YtamcfjjnaolpmaaGreatDoor
open Go.RowKit Go.Maps Go.Sort Go.Shelf Go.Proofs

/-- slices.Sort's two contracts at this dump, at the fence that asks nothing. -/
theorem hsorts (m : Nat) : AnyZ.SortsIn Tryz.prog Tryz.sorted48_ren Fence.wide m :=
  ⟨fun blk off cap ss W hH hblk hsz => callsIn_wide.2 (AnyM.slices_Sort_string Tryz.sort75 blk off cap ss W hH hblk hsz),
   fun p cap W => callsIn_wide.2 (AnyM.slices_Sort_string_none Tryz.sort75 p cap W)⟩

/-- maps.Keys at whatever map: a function value over ONE NEW BLOCK, which holds the map. -/
theorem hmapsKeys (mb : Option Nat) (W : World) : CallsIn Fence.wide 5 Tryz.prog 49 #[.map mb] W fun e w' => e = .returned (.func (.func 76) #[] #[.pointer (some ⟨W.heap.size, 0, none⟩)]) ∧ w' = W.alloc (.cells #[.map mb] 81) :=
  AnyZ.keys_in Tryz.keys49 Fence.wide 5 trivial rfl mb W

set_option maxHeartbeats 1000000 in
/-- Out of the shelf. -/
theorem hsortedKeys {H : Type} (b nn : Nat) (D0 : DataW H) (R : Value → Option (DataW H × List MemPlace)) (w : World) (hown : w.ownsMap Tryz.prog 9 R b nn D0) (hmax : Maps.size D0 ≤ maxLen) (hbytes : Maps.size D0 * 16 ≤ 140737488355328) :
    CallsIn Fence.wide 5 Tryz.prog 48 #[.func (.func 76) #[] #[.pointer (some ⟨w.heap.size, 0, none⟩)]] (w.alloc (.cells #[.map (some b)] 81)) fun e w' => ∃ (v : Value) (ss : List (List UInt8)), e = .returned v ∧ ss.Perm (strKeys D0) ∧
      w'.ownsRow (w.alloc (.cells #[.map (some b)] 81)).heap.size 9 1 v ss.length ((ss.mergeSort (fun x y => decide (x ≤ y))).map encStr) ∧ (v = .slice none 0 0 ↔ ss = []) ∧ Below (w.alloc (.cells #[.map (some b)] 81)).heap.size (w.alloc (.cells #[.map (some b)] 81)) w' := by
  have hbl := hown.lt
  have hseq : SeqGives Fence.wide 2 Tryz.prog 76 #[.pointer (some ⟨w.heap.size, 0, none⟩)] encStr (fun ss => ss.Perm (strKeys D0)) (Maps.size D0) (w.alloc (.cells #[.map (some b)] 81)) :=
    AnyZ.keys_gives (ρ := Tryz.keys49_ren) { Tryz.keys49 with } Fence.wide _ trivial rfl (by omega) w.heap.size b nn D0 _ (by simp) (by simp) (by
      obtain ⟨es, clock, hb, Ft, hs, hD⟩ := hown
      exact ⟨es, clock, (Below.heap_alloc _ _ b hbl).trans hb, Ft, hs, hD⟩)
  exact AnyZ.sorted_in Tryz.sorted48 Fence.wide 5 trivial trivial trivial trivial rfl (by omega) (hsorts _) (enters_of Tryz.func75 (by kernel_rfl) rfl) 76 #[.pointer (some ⟨w.heap.size, 0, none⟩)] trivial (enters_of Tryz.func76 (by kernel_rfl) rfl) _ _ hmax hbytes _ hseq


set_option maxHeartbeats 1000000 in
/-- Names of a host: its map's keys, sorted. -/
theorem names_calls {w : World} {h m s sm n : Nat} {D : DataW Value} {now : Int} (H : HostAt w h m s sm n D now) (hD : Maps.size D ≤ 8) :
    Calls Tryz.prog 18 #[.pointer (some ⟨h, 0, none⟩)] w fun e w' => ∃ (v : Value) (ss : List (List UInt8)), e = .returned v ∧ ss.Perm (strKeys D) ∧ Slc w' 1 v ss.length ((ss.mergeSort (fun x y => decide (x ≤ y))).map encStr) ∧ Ext w w' := by
  obtain ⟨c0, c1, c2, f2, hh⟩ := H.facts
  have hk := fun W => (callsIn_wide (n := 5)).1 (hmapsKeys (some m) W)
  have hc := (callsIn_wide (n := 5)).1 (hsortedKeys m n D selfElem w H.map (by unfold maxLen; omega) (by omega))
  have HK := Lib.hid hk
  have HC := Lib.hid hc
  clear hk hc H
  go_enter Tryz.func18, Tryz.ntmps18
  go_wp2_with (first
    | (go_at_call 49; refine (HK.out _).mono ?_; rintro e w1 ⟨rfl, rfl⟩)
    | (go_at_call 48; refine HC.out.mono ?_; rintro e w2 ⟨v, ss, rfl, hp, hrow, hnil, hx⟩))
  go_ret
  exact ⟨v, ss, rfl, hp, Slc.of_own hrow, ((Ext.refl w).alloc _).trans hx⟩
end Go.Proofs.YtamcfjjnaolpmaaGreatDoor
