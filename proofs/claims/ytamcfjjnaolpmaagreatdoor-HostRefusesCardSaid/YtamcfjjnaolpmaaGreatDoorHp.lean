/- HostRefuses: names by the document's answer; ticks. -/
import Derived.Test.YtamcfjjnaolpmaaGreatDoorHo
namespace Go.Proofs.YtamcfjjnaolpmaaGreatDoor
open Go.RowKit
set_option maxRecDepth 100000

set_option maxHeartbeats 1000000 in
theorem refLettered (c : UInt8) (k : Nat) (w : World) : Calls Tryz.prog 53 #[.int .u8 c.toNat, .int .i64 k] w fun e w' => e = .returned (.bool (okAt k c)) ∧ w' = w := by
  have hb : ∀ r : Bool, (r = true ↔ (97 ≤ c.toNat ∧ c.toNat ≤ 122 ∨ 0 < k ∧ 48 ≤ c.toNat ∧ c.toNat ≤ 57)) → okAt k c = r := by
    intro r hr
    unfold okAt lowB letB
    rw [Bool.eq_iff_iff]
    rw [hr]
    split
    · rename_i h; simp; omega
    · rename_i h; simp; omega
  have HB := Lib.hid hb
  clear hb
  by_cases h1 : (97 : Int) ≤ c.toNat <;> by_cases h2 : (c.toNat : Int) ≤ 122 <;> by_cases h3 : (48 : Int) ≤ c.toNat <;> by_cases h4 : (c.toNat : Int) ≤ 57 <;> by_cases h5 : (0 : Int) < k
  all_goals first
    | (exfalso; omega)
    | (go_enter Tryz.func53, Tryz.ntmps53
       go_wp2
       go_ret
       refine ⟨?_, rfl⟩
       first
       | (rw [HB.out true (by simp; omega)]; rfl)
       | (rw [HB.out false (by simp; omega)]; rfl))

set_option maxHeartbeats 1000000 in
theorem refNamed (s : ByteArray) (hs : s.size ≤ 4294967296) (w : World) : Calls Tryz.prog 22 #[.string s] w fun e w' => e = .returned (.bool (namedB s.data.toList)) ∧ w' = w := by
  have hlen : Hid (s.data.toList.length = s.size) := by simp [Hid]
  go_enter Tryz.func22, Tryz.ntmps22
  go_wp2
  go_loop [3] (fun i => ∃ k : Nat, k ≤ s.size ∧ i = .int .i64 k ∧ Hid (∀ j, j < k → okAt j (s.data.toList[j]?.getD 0) = true)) (fun i => s.size - (intOf i).toNat)
  case atStart => exact ⟨0, Nat.zero_le _, rfl, fun j h => absurd h (Nat.not_lt_zero _)⟩
  case round =>
    obtain ⟨k, hk, rfl, hall⟩ := hrel
    by_cases hlt : k < s.size
    · have hbyte : Hid (s.data.toList[k]?.getD 0 = s[k]) := by
        unfold Hid
        rw [byte_get hlt]
        simp [hlt]
      have hl := Lib.hid (fun w => refLettered s[k] k w)
      cases ho : okAt k s[k] with
      | true =>
        have hall' : Hid (∀ j, j < k + 1 → okAt j (s.data.toList[j]?.getD 0) = true) := by
          intro j hj
          by_cases hjk : j = k
          · rw [hjk, hbyte.out]; exact ho
          · exact hall.out j (by omega)
        go_wp2_with (go_at_call 53; refine (hl.out _).mono ?_; rintro e w1 ⟨rfl, rfl⟩)
        go_round
        case rel => exact ⟨k + 1, by omega, by go_num, hall'⟩
        case measure => simp [intOf]; omega
      | false =>
        have hno : Hid (namedB s.data.toList = false) := by
          unfold Hid
          rw [named_iff]
          have : (List.range s.data.toList.length).all (fun i => okAt i (s.data.toList[i]?.getD 0)) = false := by
            rw [List.all_eq_false]
            exact ⟨k, by rw [List.mem_range, hlen.out]; exact hlt, by rw [hbyte.out, ho]; simp⟩
          rw [this]; simp
        go_wp2_with (go_at_call 53; refine (hl.out _).mono ?_; rintro e w1 ⟨rfl, rfl⟩)
        go_ret
        exact ⟨by rw [hno.out]; rfl, rfl⟩
    · obtain rfl : k = s.size := by omega
      have hfin : Hid (namedB s.data.toList = (decide (0 < (s.size : Int)) && decide ((s.size : Int) ≤ 20))) := by
        unfold Hid
        rw [named_iff]
        have : (List.range s.data.toList.length).all (fun i => okAt i (s.data.toList[i]?.getD 0)) = true := by
          rw [List.all_eq_true]
          intro j hj
          rw [List.mem_range, hlen.out] at hj
          exact hall.out j hj
        rw [this, hlen.out, Bool.and_true]
        congr 1
        · rw [decide_eq_decide, ← hlen.out]
          cases s.data.toList <;> simp
        · exact decide_eq_decide.2 (by omega)
      by_cases h0 : (0 : Int) < s.size <;> by_cases h1 : (s.size : Int) ≤ 20
      all_goals first
        | (exfalso; omega)
        | (have hv := hfin.out
           simp only [h0, h1, decide_true, decide_false, Bool.and_true, Bool.and_false] at hv
           have HV := Lib.hid hv
           clear hv hfin
           go_wp2
           go_ret
           exact ⟨by rw [HV.out] <;> rfl, rfl⟩)

theorem clip_calls (n : Int) (w : World) : Calls Tryz.prog 69 #[.int .i64 n] w fun e w' => e = .returned (.int .i64 (min (max n 0) 1152921504606846976)) ∧ w' = w := by
  go_enter Tryz.func69, Tryz.ntmps69
  go_wp2
  go_ret
  exact ⟨rfl, rfl⟩

theorem clockAdd (n : Int) (w : World) : Calls Tryz.prog 43 #[.int .i64 0, .int .i64 n] w fun e w' => e = .returned (.int .i64 (min (max n 0) 1152921504606846976)) ∧ w' = w := by
  have e1 : IntKind.i64.wrap (min (max 0 0) 1152921504606846976 + min (max n 0) 1152921504606846976) = min (max n 0) 1152921504606846976 := IntWalk.i64_in _ (by omega) |>.trans (by omega)
  have e2 : min (max (min (max n 0) 1152921504606846976) 0) 1152921504606846976 = min (max n 0) 1152921504606846976 := by omega
  go_enter Tryz.func43, Tryz.ntmps43
  go_wp2_with (go_at_call 69; refine (clip_calls _ _).mono ?_; rintro e w1 ⟨rfl, rfl⟩)
  go_ret
  exact ⟨by simp; omega, rfl⟩
end Go.Proofs.YtamcfjjnaolpmaaGreatDoor
