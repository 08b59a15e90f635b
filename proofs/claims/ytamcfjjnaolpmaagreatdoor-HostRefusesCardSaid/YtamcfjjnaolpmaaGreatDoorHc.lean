/- A run of a host: found, told, taken. -/
import Derived.Test.YtamcfjjnaolpmaaGreatDoorHb
import Derived.Deep.DeepCutAuto
import Derived.Deep.RegionHeld3
import Derived.Deep.AppendLies
import Derived.StillTailTactics
namespace Go.Proofs.YtamcfjjnaolpmaaGreatDoor
open Go.RowKit
set_option maxRecDepth 100000

theorem hstr_keyed : Maps.Keyed Tryz.prog 9 := Maps.string_keyed Tryz.underlying9
theorem hkey {s : ByteArray} (hs : s.size ≤ 4294967296) : keyOf Tryz.prog 9 (.string s) = some (.string s.data.toList) :=
  WideMaps.keyOf_string_mk (P := Tryz.prog) Tryz.underlying9 (by unfold maxLen; omega)

/-- The cells of a run of a provider. -/
def runObj (p h : Nat) (out : Value) : Obj := .cells #[.pointer (some ⟨p, 0, none⟩), .pointer (some ⟨h, 0, none⟩), out] 103 (0, 0)

theorem of_nil (s : ByteArray) (w : World) : Calls Tryz.prog 29 #[.pointer none, .string s] w fun e w' => e = .returned (.tuple #[.pointer none, .int .i64 11]) ∧ w' = w := by
  go_enter Tryz.func29, Tryz.ntmps29
  go_wp2
  go_ret2
  exact ⟨rfl, rfl⟩

theorem HostAt.facts {w : World} {h m s sm n : Nat} {D : DataW Value} {now : Int} (H : HostAt w h m s sm n D now) :
    w.cell? ⟨h, 0, none⟩ = some (.map (some m)) ∧ w.cell? ⟨h, 1, none⟩ = some (.pointer (some ⟨s, 0, none⟩)) ∧ w.cell? ⟨h, 2, none⟩ = some (.int .i64 now) ∧ w.frozen? ⟨h, 2, none⟩ = false ∧ h < w.heap.size := by
  have := H.cells
  refine ⟨?_, ?_, ?_, ?_, (Array.getElem?_eq_some_iff.1 this).1⟩ <;> simp [World.cell?, World.frozen?, this]

theorem of_yes {w : World} {h m s sm n : Nat} {D : DataW Value} {now : Int} (H : HostAt w h m s sm n D now) {name : ByteArray} (hs : name.size ≤ 4294967296) {p : Nat} (hat : ∀ zd, D.atKey (.string name.data.toList) zd = .held (.pointer (some ⟨p, 0, none⟩))) :
    Calls Tryz.prog 29 #[.pointer (some ⟨h, 0, none⟩), .string name] w fun e w' => e = .returned (.tuple #[.pointer (some ⟨w.heap.size, 0, none⟩), .int .i64 0]) ∧ w' = w.alloc (runObj p h (.slice none 0 0)) := by
  obtain ⟨c0, c1, c2, f2, hh⟩ := H.facts
  have HM := Lib.hid H.map
  have HA := Lib.hid hat
  have HK := Lib.hid (hkey hs)
  clear H hat
  go_enter Tryz.func29, Tryz.ntmps29
  go_wp2_with (at_lookup; refine wpList_look_yes rfl true 81 9 80 _ _ rfl Tryz.underlying81 hstr_keyed (Tryz.zeroValue80 _) rfl HM.out HK.out rfl HA.out ?_)
  go_ret2
  exact ⟨rfl, rfl⟩

theorem of_no {w : World} {h m s sm n : Nat} {D : DataW Value} {now : Int} (H : HostAt w h m s sm n D now) {name : ByteArray} (hs : name.size ≤ 4294967296) (hat : ∀ zd, D.atKey (.string name.data.toList) zd = zd) :
    Calls Tryz.prog 29 #[.pointer (some ⟨h, 0, none⟩), .string name] w fun e w' => e = .returned (.tuple #[.pointer none, .int .i64 7]) ∧ w' = w := by
  obtain ⟨c0, c1, c2, f2, hh⟩ := H.facts
  have HM := Lib.hid H.map
  have HA := Lib.hid hat
  have HK := Lib.hid (hkey hs)
  clear H hat
  go_enter Tryz.func29, Tryz.ntmps29
  go_wp2_with (at_lookup; refine wpList_look_no rfl true 81 9 80 _ _ rfl Tryz.underlying81 hstr_keyed (Tryz.zeroValue80 _) rfl HM.out HK.out rfl HA.out ?_)
  go_ret2
  exact ⟨rfl, rfl⟩

theorem info_out : (Tryz.prog.info? 79).map (fun i => (i.zero, i.size, i.bytes)) = some (some (.agg (outCells ByteArray.empty 0)), 20, 272) := by kernel_rfl

theorem own_slice {w : World} {base size n : Nat} {e : TypeId} {v : Value} {xs : List Value} (h : w.ownsRow base e size v n xs) (hn : n ≠ 0) : ∃ g cap, v = .slice (some ⟨g, 0, none⟩) n cap ∧ base ≤ g := by
  obtain ⟨_, h⟩ := h
  rcases h with ⟨_, h⟩ | ⟨g, cap, cur, h, hg, _⟩
  · exact absurd h hn
  · exact ⟨g, cap, h, hg⟩

theorem outOne (name : ByteArray) (kind : Int) : ∀ u ∈ (outCells name kind).toList, u.oneCell' = true := List.all_eq_true.1 (by rfl : (outCells name kind).toList.all Value.oneCell' = true)

theorem outFacts {w : World} {b : Nat} {name : ByteArray} {kind : Int} (h : w.heap[b]? = some (.cells (outCells name kind) 79 (0, 0))) (i : Nat) (v : Value) (hv : (outCells name kind)[i]? = some v) : w.cell? ⟨b, i, none⟩ = some v := by
  unfold World.cell?
  rw [show (⟨b, i, none⟩ : Addr).block = b from rfl, h]
  exact hv

theorem tell_fin {w w2 w5 : World} {r p h : Nat} {name : ByteArray} {kind : Int} {o : Obj} {B g5 cap5 : Nat} (hB : w2.heap.size < B) (hx : Ext w w2) (hr2 : w2.heap[r]? = some (runObj p h (.slice none 0 0))) (hx5 : Ext (w2.alloc o) w5)
    (hown5 : w5.ownsRow B 79 20 (.slice (some ⟨g5, 0, none⟩) (0 + 1) cap5) (0 + 1) ([] ++ (outCells name kind).toList)) :
    (w5.setCell ⟨r, 2, none⟩ (.slice (some ⟨g5, 0, none⟩) (0 + 1) cap5)).heap[r]? = some (runObj p h (.slice (some ⟨g5, 0, none⟩) (0 + 1) cap5)) ∧
      Slc (w5.setCell ⟨r, 2, none⟩ (.slice (some ⟨g5, 0, none⟩) (0 + 1) cap5)) 20 (.slice (some ⟨g5, 0, none⟩) (0 + 1) cap5) 1 (outCells name kind).toList ∧ w.grownBy (w5.setCell ⟨r, 2, none⟩ (.slice (some ⟨g5, 0, none⟩) (0 + 1) cap5)) (some r) := by
  have hr2l : r < w2.heap.size := (Array.getElem?_eq_some_iff.1 hr2).1
  have hs : (w2.alloc o).heap.size = w2.heap.size + 1 := by simp
  have hr5 : w5.heap[r]? = some (runObj p h (.slice none 0 0)) := (hx5.heap (by omega)).trans ((Below.heap_alloc _ _ _ hr2l).trans hr2)
  have hg5 : B ≤ g5 := by
    rcases hown5.2 with h | ⟨g, _, _, h, hg, _⟩
    · exact absurd h.2 (by omega)
    · have e : g5 = g := (by simpa using h : g5 = g ∧ _).1
      omega
  have hrow := ownsRow_kept (w' := w5.setCell ⟨r, 2, none⟩ (.slice (some ⟨g5, 0, none⟩) (0 + 1) cap5)) hown5 (fun g hg h1 _ => Below.heap_setCell _ _ _ _ (by
    have e : g5 = g := by simpa [Value.ownBlock] using hg
    show g ≠ r
    omega))
  refine ⟨heap_set hr5, Slc.of_own hrow, ?_⟩
  exact grown_set (grown_trans (grown_ext (grown_refl _ _) hx) (grown_ext (grown_alloc (grown_refl _ _) _) hx5))

theorem step_build {o : Oper} {a : Act} {w : World} {K : Act → World → Prop} {Q : Exit → Act → World → Prop} {name : ByteArray} {kind : Int} {x : Nat} (hop : o.op = Op.buildSlice 25 1 #[(0, .tmp x)]) (hx : a.tmps[x]?.getD undef = .agg (outCells name kind))
    (hK : K (a.put o.dst (.slice (some ⟨w.heap.size, 0, none⟩) 1 1)) (w.alloc (.cells (outCells name kind) 79))) : Oper.wp Tryz.prog o a w K Q := by
  unfold outCells at hx hK
  unfold Oper.wp
  simp [execOp, hop, hx, go_sem]
  exact hK

set_option maxHeartbeats 4000000 in
theorem tell_calls {w : World} {r p h : Nat} (hr : w.heap[r]? = some (runObj p h (.slice none 0 0))) {name : ByteArray} (hn : w.cell? ⟨p, 1, none⟩ = some (.string name)) (kind : Int) :
    Calls Tryz.prog 58 #[.pointer (some ⟨r, 0, none⟩), .agg (outCells ByteArray.empty kind)] w
      fun e w' => e = .returned (.tuple #[]) ∧ ∃ v, w'.heap[r]? = some (runObj p h v) ∧ Slc w' 20 v 1 (outCells name kind).toList ∧ w.grownBy w' (some r) := by
  have c0 : w.cell? ⟨r, 0, none⟩ = some (.pointer (some ⟨p, 0, none⟩)) := by simp [World.cell?, hr, runObj]
  have hrl : r < w.heap.size := (Array.getElem?_eq_some_iff.1 hr).1
  have b0 := cells_new w (outCells ByteArray.empty kind) 79 (i := 0) (v := .string ByteArray.empty) rfl
  have HR := Lib.hid hr
  have HN := Lib.hid (cell_lt hn)
  have n1 := Lib.cell?_alloc_some (.cells (outCells ByteArray.empty kind) 79) hn
  have n0 := Lib.cell?_alloc_some (.cells (outCells ByteArray.empty kind) 79) c0
  clear hr
  go_enter Tryz.func58, Tryz.ntmps58
  go_upto_region 2 with fail
  rw [show (outCells ByteArray.empty kind).setIfInBounds 0 (.string name) = outCells name kind from rfl]
  have hx : Hid (Ext w (w.alloc (.cells (outCells name kind) 79))) := (Ext.refl w).alloc _
  have hb := heap_new w (.cells (outCells name kind) 79)
  clear n0 n1 b0
  generalize World.alloc w _ = w2 at *
  have hr2 := (hx.out.heap hrl).trans HR.out
  have c2 : w2.cell? ⟨r, 2, none⟩ = some (.slice none 0 0) := by simp [World.cell?, hr2, runObj]
  have f2 : w2.frozen? ⟨r, 2, none⟩ = false := by simp [World.frozen?, hr2, runObj]
  have hr2l : r < w2.heap.size := Nat.lt_of_lt_of_le hrl hx.out.size
  obtain ⟨i1, hi1, hz10, hz11, hz12⟩ := info_parts info_out
  refine wp_region_any (by kernel_rfl) ?_
  change wpAny _ _ _ _ _ _ _ (World.drew _)
  refine wpAny_take (i := 0) (v := .pointer (some ⟨r, 0, none⟩)) rfl (by kernel_rfl) (by kernel_rfl) (by kernel_rfl) (fun _ _ _ h => h) (Or.inl ⟨by rfl, fun w => rfl⟩) ?_
  refine wpAny_take (i := 1) (v := .pointer (some ⟨r, 0, none⟩)) rfl (by kernel_rfl) (by kernel_rfl) (by kernel_rfl) (fun _ _ _ h => h) (Or.inl ⟨by rfl, fun w => rfl⟩) ?_
  refine wpAny_take (i := 2) (v := .pointer (some ⟨r, 0, none⟩)) rfl (by kernel_rfl) (by kernel_rfl) (by kernel_rfl) (fun _ _ _ h => h) (Or.inl ⟨by rfl, fun w => rfl⟩) ?_
  refine wpAny_take (i := 3) (v := .pointer (some ⟨r, 2, none⟩)) rfl (by kernel_rfl) (by kernel_rfl) (by kernel_rfl) (fun _ _ _ h => h) (Or.inl ⟨by rfl, fun w => by go_simp⟩) ?_
  refine wpAny_ready (rs := [4, 5]) (by kernel_rfl) (by simp) (AllReady.cons rfl (fun K hK => ?_) (AllReady.cons rfl (fun K hK => ?_) AllReady.nil))
  · rw [if_pos (by rfl)]
    go_simp
    refine hK _ _ ?_
    clear hK K
    refine wpAny_ready (rs := [5]) (by kernel_rfl) (by simp) (AllReady.cons rfl (fun K hK => ?_) AllReady.nil)
    rw [if_pos (by rfl)]
    refine wp_load_row 79 (.tmp 3) rfl w.heap.size (by rfl) 79 (outCells name kind) (0, 0) _ hb Tryz.underlying79 rfl (by kernel_rfl) ?_
    refine hK _ _ ?_
    clear hK K
    refine wpAny_ready (rs := [6]) (by kernel_rfl) (by simp) (AllReady.cons rfl (fun K hK => ?_) AllReady.nil)
    rw [if_pos (by rfl)]
    refine step_build (x := 17) rfl (by rfl) ?_
    refine hK _ _ ?_
    clear hK K
    refine wpAny_ready (rs := [7]) (by kernel_rfl) (by simp) (AllReady.cons rfl (fun K hK => ?_) AllReady.nil)
    refine step_append_grows (by rfl) _ _ _ (by rfl) 79 i1 _ 20 272 Tryz.underlying25 hi1 hz10 hz11 hz12 rfl (by omega) none 0 0 [] (by rfl) (fun _ => ⟨rfl, rfl⟩) rfl
      (fun b hb => by cases hb) ⟨w2.heap.size, 0, none⟩ 1 1 (outCells name kind).toList (by rfl) rfl (by exact World.news_of_block (w := (w2.alloc (.cells (outCells name kind) 79)).drew) (cs := outCells name kind) (heap_new w2 _)) (outOne name kind) (by omega) (by unfold maxLen; omega) (by omega) ?_
    intro v5 w5 hown5 hgrow5
    obtain ⟨g5, cap5, rfl, hg5⟩ := own_slice hown5 (by omega)
    have hx5 := ext_grown_none hgrow5
    have y2 := hx5.cell_some (show (w2.alloc (.cells (outCells name kind) 79)).drew.cell? ⟨r, 2, none⟩ = some (.slice none 0 0) from Lib.cell?_alloc_some _ c2)
    have g2 : w5.frozen? ⟨r, 2, none⟩ = false := (hx5.frozen (show r < (w2.alloc (.cells (outCells name kind) 79)).heap.size from Nat.lt_of_lt_of_le hr2l (by simp))).trans ((frozen?_alloc_cells _ _ _ _).trans f2)
    refine hK _ _ ?_
    clear hK K
    refine wpAny_ready (rs := [8]) (by kernel_rfl) (by simp) (AllReady.cons rfl (fun K hK => ?_) AllReady.nil)
    rw [if_pos (by rfl)]
    go_simp
    refine hK _ _ ?_
    clear hK K
    refine wpAny_ready (rs := [9]) (by kernel_rfl) (by simp) (AllReady.cons rfl (fun K hK => ?_) AllReady.nil)
    rw [if_pos (by rfl)]
    go_simp
    refine hK _ _ ?_
    clear hK K
    refine wpAny_ready (rs := [10]) (by kernel_rfl) (by simp) (AllReady.cons rfl (fun K hK => ?_) AllReady.nil)
    rw [if_pos (by rfl)]
    go_simp
    refine hK _ _ ?_
    clear hK K
    refine wpAny_done (by kernel_rfl) ?_ _
    go_end0
    refine ⟨rfl, .slice (some ⟨g5, 0, none⟩) (0 + 1) cap5, ?_⟩
    exact tell_fin (show w2.heap.size < (w2.alloc (.cells (outCells name kind) 79)).heap.size by simp) hx.out hr2 (((Ext.refl (w2.alloc (.cells (outCells name kind) 79))).drew).trans (show Ext (w2.alloc (.cells (outCells name kind) 79)).drew w5 from hx5)) hown5
  · rw [if_pos (by rfl)]
    refine wp_load_row 79 (.tmp 3) rfl w.heap.size (by rfl) 79 (outCells name kind) (0, 0) _ hb Tryz.underlying79 rfl (by kernel_rfl) ?_
    refine hK _ _ ?_
    clear hK K
    refine wpAny_ready (rs := [4, 6]) (by kernel_rfl) (by simp) (AllReady.cons rfl (fun K hK => ?_) (AllReady.cons rfl (fun K hK => ?_) AllReady.nil))
    · rw [if_pos (by rfl)]
      go_simp
      refine hK _ _ ?_
      clear hK K
      refine wpAny_ready (rs := [6]) (by kernel_rfl) (by simp) (AllReady.cons rfl (fun K hK => ?_) AllReady.nil)
      rw [if_pos (by rfl)]
      refine step_build (x := 17) rfl (by rfl) ?_
      refine hK _ _ ?_
      clear hK K
      refine wpAny_ready (rs := [7]) (by kernel_rfl) (by simp) (AllReady.cons rfl (fun K hK => ?_) AllReady.nil)
      refine step_append_grows (by rfl) _ _ _ (by rfl) 79 i1 _ 20 272 Tryz.underlying25 hi1 hz10 hz11 hz12 rfl (by omega) none 0 0 [] (by rfl) (fun _ => ⟨rfl, rfl⟩) rfl
        (fun b hb => by cases hb) ⟨w2.heap.size, 0, none⟩ 1 1 (outCells name kind).toList (by rfl) rfl (by exact World.news_of_block (w := (w2.alloc (.cells (outCells name kind) 79)).drew) (cs := outCells name kind) (heap_new w2 _)) (outOne name kind) (by omega) (by unfold maxLen; omega) (by omega) ?_
      intro v5 w5 hown5 hgrow5
      obtain ⟨g5, cap5, rfl, hg5⟩ := own_slice hown5 (by omega)
      have hx5 := ext_grown_none hgrow5
      have y2 := hx5.cell_some (show (w2.alloc (.cells (outCells name kind) 79)).drew.cell? ⟨r, 2, none⟩ = some (.slice none 0 0) from Lib.cell?_alloc_some _ c2)
      have g2 : w5.frozen? ⟨r, 2, none⟩ = false := (hx5.frozen (show r < (w2.alloc (.cells (outCells name kind) 79)).heap.size from Nat.lt_of_lt_of_le hr2l (by simp))).trans ((frozen?_alloc_cells _ _ _ _).trans f2)
      refine hK _ _ ?_
      clear hK K
      refine wpAny_ready (rs := [8]) (by kernel_rfl) (by simp) (AllReady.cons rfl (fun K hK => ?_) AllReady.nil)
      rw [if_pos (by rfl)]
      go_simp
      refine hK _ _ ?_
      clear hK K
      refine wpAny_ready (rs := [9]) (by kernel_rfl) (by simp) (AllReady.cons rfl (fun K hK => ?_) AllReady.nil)
      rw [if_pos (by rfl)]
      go_simp
      refine hK _ _ ?_
      clear hK K
      refine wpAny_ready (rs := [10]) (by kernel_rfl) (by simp) (AllReady.cons rfl (fun K hK => ?_) AllReady.nil)
      rw [if_pos (by rfl)]
      go_simp
      refine hK _ _ ?_
      clear hK K
      refine wpAny_done (by kernel_rfl) ?_ _
      go_end0
      refine ⟨rfl, .slice (some ⟨g5, 0, none⟩) (0 + 1) cap5, ?_⟩
      exact tell_fin (show w2.heap.size < (w2.alloc (.cells (outCells name kind) 79)).heap.size by simp) hx.out hr2 (((Ext.refl (w2.alloc (.cells (outCells name kind) 79))).drew).trans (show Ext (w2.alloc (.cells (outCells name kind) 79)).drew w5 from hx5)) hown5
    · rw [if_pos (by rfl)]
      refine step_build (x := 17) rfl (by rfl) ?_
      refine hK _ _ ?_
      clear hK K
      refine wpAny_ready (rs := [4]) (by kernel_rfl) (by simp) (AllReady.cons rfl (fun K hK => ?_) AllReady.nil)
      rw [if_pos (by rfl)]
      go_simp
      refine hK _ _ ?_
      clear hK K
      refine wpAny_ready (rs := [7]) (by kernel_rfl) (by simp) (AllReady.cons rfl (fun K hK => ?_) AllReady.nil)
      refine step_append_grows (by rfl) _ _ _ (by rfl) 79 i1 _ 20 272 Tryz.underlying25 hi1 hz10 hz11 hz12 rfl (by omega) none 0 0 [] (by rfl) (fun _ => ⟨rfl, rfl⟩) rfl
        (fun b hb => by cases hb) ⟨w2.heap.size, 0, none⟩ 1 1 (outCells name kind).toList (by rfl) rfl (by exact World.news_of_block (w := (w2.alloc (.cells (outCells name kind) 79)).drew) (cs := outCells name kind) (heap_new w2 _)) (outOne name kind) (by omega) (by unfold maxLen; omega) (by omega) ?_
      intro v5 w5 hown5 hgrow5
      obtain ⟨g5, cap5, rfl, hg5⟩ := own_slice hown5 (by omega)
      have hx5 := ext_grown_none hgrow5
      have y2 := hx5.cell_some (show (w2.alloc (.cells (outCells name kind) 79)).drew.cell? ⟨r, 2, none⟩ = some (.slice none 0 0) from Lib.cell?_alloc_some _ c2)
      have g2 : w5.frozen? ⟨r, 2, none⟩ = false := (hx5.frozen (show r < (w2.alloc (.cells (outCells name kind) 79)).heap.size from Nat.lt_of_lt_of_le hr2l (by simp))).trans ((frozen?_alloc_cells _ _ _ _).trans f2)
      refine hK _ _ ?_
      clear hK K
      refine wpAny_ready (rs := [8]) (by kernel_rfl) (by simp) (AllReady.cons rfl (fun K hK => ?_) AllReady.nil)
      rw [if_pos (by rfl)]
      go_simp
      refine hK _ _ ?_
      clear hK K
      refine wpAny_ready (rs := [9]) (by kernel_rfl) (by simp) (AllReady.cons rfl (fun K hK => ?_) AllReady.nil)
      rw [if_pos (by rfl)]
      go_simp
      refine hK _ _ ?_
      clear hK K
      refine wpAny_ready (rs := [10]) (by kernel_rfl) (by simp) (AllReady.cons rfl (fun K hK => ?_) AllReady.nil)
      rw [if_pos (by rfl)]
      go_simp
      refine hK _ _ ?_
      clear hK K
      refine wpAny_done (by kernel_rfl) ?_ _
      go_end0
      refine ⟨rfl, .slice (some ⟨g5, 0, none⟩) (0 + 1) cap5, ?_⟩
      exact tell_fin (show w2.heap.size < (w2.alloc (.cells (outCells name kind) 79)).heap.size by simp) hx.out hr2 (((Ext.refl (w2.alloc (.cells (outCells name kind) 79))).drew).trans (show Ext (w2.alloc (.cells (outCells name kind) 79)).drew w5 from hx5)) hown5
end Go.Proofs.YtamcfjjnaolpmaaGreatDoor
