/- Names: which text may be one. -/
import Derived.Test.YtbnmjdmbdoehlaaGreatDoorE0
import Derived.Deep.QuietTactic
import Derived.BigQuiet
import Derived.IntWalk
import Derived.Outline
import Derived.WalkLawsBesides
import Derived.WalkSpells
namespace Go.Proofs.YtbnmjdmbdoehlaaGreatDoor
open Go.RowKit
set_option maxRecDepth 100000

def lowB (c : UInt8) : Bool := decide (97 ≤ c.toNat ∧ c.toNat ≤ 122)
def letB (c : UInt8) : Bool := decide (97 ≤ c.toNat ∧ c.toNat ≤ 122 ∨ 48 ≤ c.toNat ∧ c.toNat ≤ 57)

/-- May a text be a name? -/
def namedB (s : List UInt8) : Bool :=
  match s with
  | [] => false
  | c :: r => lowB c && r.all letB && decide (s.length ≤ 20)

theorem byte_get {s : ByteArray} {i : Nat} (h : i < s.size) : s[i] = s.data.toList[i]'(by simpa using h) := by simp [ByteArray.getElem_eq_getElem_data]
set_option maxHeartbeats 1000000 in
theorem lettered_calls (c : UInt8) (w : World) : Calls Tryz.prog 269 #[.int .u8 c.toNat] w fun e w' => e = .returned (.bool (letB c)) ∧ w' = w := by
  have hb : ∀ r : Bool, (r = true ↔ (97 ≤ c.toNat ∧ c.toNat ≤ 122 ∨ 48 ≤ c.toNat ∧ c.toNat ≤ 57)) → letB c = r := by
    intro r hr
    unfold letB
    cases r with
    | true => simp [hr.1 rfl]
    | false =>
      simp only [decide_eq_false_iff_not]
      intro h; have := hr.2 h; cases this
  have HB := Lib.hid hb
  clear hb
  by_cases h1 : (97 : Int) ≤ c.toNat <;> by_cases h2 : (c.toNat : Int) ≤ 122 <;> by_cases h3 : (48 : Int) ≤ c.toNat <;> by_cases h4 : (c.toNat : Int) ≤ 57
  all_goals first
    | (exfalso; omega)
    | (go_enter Tryz.func269, Tryz.ntmps269
       go_wp2
       go_ret
       refine ⟨?_, rfl⟩
       first
       | (rw [HB.out true (by simp; omega)]; rfl)
       | (rw [HB.out false (by simp; omega)]; rfl))

/-- May the byte at a place stand there in a name? -/
def okAt (i : Nat) (c : UInt8) : Bool := if i = 0 then lowB c else letB c

theorem named_iff (s : List UInt8) : namedB s = (decide (s ≠ []) && decide (s.length ≤ 20) && (List.range s.length).all fun i => okAt i (s[i]?.getD 0)) := by
  cases s with
  | nil => rfl
  | cons c r =>
    have e : (List.range (c :: r).length).all (fun i => okAt i ((c :: r)[i]?.getD 0)) = (lowB c && r.all letB) := by
      rw [Bool.eq_iff_iff]
      simp only [List.all_eq_true, List.mem_range, Bool.and_eq_true]
      constructor
      · intro h
        refine ⟨by simpa [okAt] using h 0 (by simp), fun x hx => ?_⟩
        obtain ⟨i, hi, rfl⟩ := List.mem_iff_getElem.1 hx
        have := h (i + 1) (by simp; omega)
        simpa [okAt, hi] using this
      · rintro ⟨h0, h1⟩ i hi
        cases i with
        | zero => simpa [okAt] using h0
        | succ i =>
          have hi' : i < r.length := by simpa using hi
          simpa [okAt, hi'] using h1 r[i] (List.getElem_mem hi')
    rw [e]
    show (lowB c && r.all letB && decide ((c :: r).length ≤ 20)) = _
    have h1 : decide (c :: r ≠ []) = true := by simp
    rw [h1, Bool.true_and, Bool.and_comm]

set_option maxHeartbeats 4000000 in
theorem named_calls (s : ByteArray) (hs : s.size ≤ 4294967296) (w : World) : Calls Tryz.prog 231 #[.string s] w fun e w' => e = .returned (.bool (namedB s.data.toList)) ∧ w' = w := by
  have hlen : Hid (s.data.toList.length = s.size) := by simp [Hid]
  go_enter Tryz.func231, Tryz.ntmps231
  go_wp2
  go_loop [7] (fun i => ∃ k : Nat, k ≤ s.size ∧ i = .int .i64 k ∧ Hid (∀ j, j < k → okAt j (s.data.toList[j]?.getD 0) = true)) (fun i => s.size - (intOf i).toNat)
  case atStart => exact ⟨0, Nat.zero_le _, rfl, fun j h => absurd h (Nat.not_lt_zero _)⟩
  case round =>
    obtain ⟨k, hk, rfl, hall⟩ := hrel
    by_cases hlt : k < s.size
    · obtain ⟨c, hc⟩ : ∃ c, s[k].toNat = c := ⟨_, rfl⟩
      have hbyte : Hid (s.data.toList[k]?.getD 0 = s[k]) := by
        unfold Hid
        rw [byte_get hlt]
        simp [hlt]
      have hyes : Hid ((k = 0 → 97 ≤ c ∧ c ≤ 122) → (k ≠ 0 → (97 ≤ c ∧ c ≤ 122 ∨ 48 ≤ c ∧ c ≤ 57)) → ∀ j, j < k + 1 → okAt j (s.data.toList[j]?.getD 0) = true) := by
        intro h0 h1 j hj
        by_cases hjk : j = k
        · rw [hjk, hbyte.out]
          unfold okAt
          split
          · rename_i hz
            unfold lowB; rw [hc]; exact decide_eq_true (h0 hz)
          · rename_i hz
            unfold letB; rw [hc]; exact decide_eq_true (h1 hz)
        · exact hall.out j (by omega)
      have hno : Hid ((k = 0 → ¬ (97 ≤ c ∧ c ≤ 122)) → (k ≠ 0 → ¬ (97 ≤ c ∧ c ≤ 122 ∨ 48 ≤ c ∧ c ≤ 57)) → namedB s.data.toList = false) := by
        intro h0 h1
        rw [named_iff]
        have : (List.range s.data.toList.length).all (fun i => okAt i (s.data.toList[i]?.getD 0)) = false := by
          rw [List.all_eq_false]
          refine ⟨k, by rw [List.mem_range, hlen.out]; exact hlt, ?_⟩
          rw [hbyte.out]
          unfold okAt
          split
          · rename_i hz
            unfold lowB; rw [hc, decide_eq_false (h0 hz)]; simp
          · rename_i hz
            unfold letB; rw [hc, decide_eq_false (h1 hz)]; simp
        rw [this]; simp
      by_cases h1 : (97 : Int) ≤ c <;> by_cases h2 : (c : Int) ≤ 122 <;> by_cases h3 : (48 : Int) ≤ c <;> by_cases h4 : (c : Int) ≤ 57
      all_goals first
        | (exfalso; omega)
        | (rcases Nat.eq_zero_or_pos k with rfl | h5
           · simp only [Int.ofNat_zero] at *
             go_wp2
             first
             | (go_round
                case rel => exact ⟨1, by omega, rfl, hyes.out (by omega) (by omega)⟩
                case measure => simp [intOf]; omega)
             | (go_ret
                refine ⟨?_, rfl⟩
                rw [hno.out (by omega) (by omega)]
                rfl)
           · go_wp2
             first
             | (go_round
                case rel => exact ⟨k + 1, by omega, by go_num, hyes.out (by omega) (by omega)⟩
                case measure => simp [intOf]; omega)
             | (go_ret
                refine ⟨?_, rfl⟩
                rw [hno.out (by omega) (by omega)]
                rfl))
    · obtain rfl : k = s.size := by omega
      have hfin : Hid (namedB s.data.toList = (decide (s.data.toList ≠ []) && decide (s.size ≤ 20))) := by
        unfold Hid
        rw [named_iff]
        have : (List.range s.data.toList.length).all (fun i => okAt i (s.data.toList[i]?.getD 0)) = true := by
          rw [List.all_eq_true]
          intro j hj
          rw [List.mem_range, hlen.out] at hj
          exact hall.out j hj
        rw [this, hlen.out]; simp
      have etl : s.toList = s.data.toList := ByteArray.toList_eq s
      by_cases h0 : s.size = 0
      · have he : s.toList.isEmpty = true := by
          rw [etl, List.isEmpty_iff]; exact List.length_eq_zero_iff.1 (by rw [hlen.out]; exact h0)
        have hf : namedB s.data.toList = false := by rw [hfin.out]; have : s.data.toList = [] := List.length_eq_zero_iff.1 (by rw [hlen.out]; exact h0)
                                                     rw [this]; simp
        have HF := Lib.hid hf
        clear hf h0 etl
        go_wp2
        go_ret
        exact ⟨by rw [HF.out]; rfl, rfl⟩
      · have he : s.toList.isEmpty = false := by
          rw [etl]
          cases hq : s.data.toList with
          | nil => have := hlen.out; rw [hq] at this; simp at this; omega
          | cons _ _ => rfl
        have hne : s.data.toList ≠ [] := fun e => h0 (by have := hlen.out; rw [e] at this; exact this.symm)
        have hf : Hid (namedB s.data.toList = decide ((s.size : Int) ≤ 20)) := by
          unfold Hid; rw [hfin.out]
          have h1 : decide (s.data.toList ≠ []) = true := by simp only [hne, ne_eq, not_false_eq_true, decide_true]
          rw [h1, Bool.true_and]
          exact decide_eq_decide.2 (by omega)
        clear hne etl h0
        go_wp2
        go_ret
        exact ⟨congrArg (fun b => Ending.returned (.bool b)) hf.out.symm, rfl⟩
end Go.Proofs.YtbnmjdmbdoehlaaGreatDoor
