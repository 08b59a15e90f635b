/- Calls of yield; all calls; a closed run. -/
import Derived.Test.YtbnmjdmbdoehlaaGreatDoorEt
namespace Go.Proofs.YtbnmjdmbdoehlaaGreatDoor.Ev
open Go Go.RowKit

/-- The record of a loop, in the machine. -/
theorem Inv.loop {P : Program} {w0 : World} {ρ : Ren} {H : G} {w : World} (hI : Inv P w0 ρ H w) {l : Nat} {k : Blk} {st : LoopState} {pend : Option Code} {T : Tr Value} {n : Nat} {ps : Array Tmp} {as bd : Code} {d : Nat} (hl : H l = some (.loop st pend T n ps as bd d)) (hk : ρ l = some k) :
    ∃ fn tmps kd, w.heap[k.a]? = some (.loop { state := st, pending := pend, fn, tmps, params := ps, assign := as, body := bd, defers := kd.a }) ∧ TR ρ T n tmps ∧ ρ d = some kd ∧
      ∀ st2 pend2, Inv P w0 ρ (ap H [(l, some (.loop st2 pend2 T n ps as bd d))]) (w.putObj k.a (.loop { state := st2, pending := pend2, fn, tmps, params := ps, assign := as, body := bd, defers := kd.a })) := by
  obtain ⟨k', o', hk', hlo, hb, hor⟩ := hI.live _ _ hl
  obtain rfl : k' = k := Option.some.inj (hk'.symm.trans hk)
  cases hor with
  | loop _ _ _ _ _ _ _ _ kd fn tmps hT hd =>
    exact ⟨fn, tmps, kd, hb, hT, hd, fun st2 pend2 => hI.put hl hk (.loop _ _ _ _ _ _ _ _ kd fn tmps hT hd)⟩

def xPend : X → Option Code
  | .nrm => none
  | .ret => some .ret
  | .exit i => some (.exit i)
def xState : X → LoopState
  | .nrm => .ready
  | _ => .done
def xBool : X → Bool
  | .nrm => true
  | _ => false

theorem yield_ok {P : Program} {pr : Prims} (hP : POk P pr) {call : CallF} (hcall : CallOk P call) {l m d m2 d2 m3 d3 : Nat} {pend pend2 pend3 : Option Code} {T T2 T3 : Tr Value} {ps ps2 ps3 : Array Tmp} {assign body assign2 body2 assign3 body3 : Code} {st3 : LoopState} {args : List Value} {s s1 s3 : St} {x : X} {fr fr3 : Fr}
    (hl : s.heap.get l = some (.loop .ready pend T m ps assign body d)) (hlen : args.length = ps.size) (hm : m ≤ lim) (h1 : runCode P call true assign ⟨foldTr m (ps.toList.zip args) T, m, []⟩ (s.eff [l] [] 0) = some (.nrm, fr, s1))
    (hl2 : s1.heap.get l = some (.loop .ready pend2 T2 m2 ps2 assign2 body2 d2)) (h2 : runCode P call true body fr (s1.eff [l] [(l, some (.loop .busy pend2 T2 m2 ps2 assign2 body2 d2))] 0) = some (x, fr3, s3))
    (hl3 : s3.heap.get l = some (.loop st3 pend3 T3 m3 ps3 assign3 body3 d3)) (hg : Good s) : CallDoes P (.func (.yield l) #[] #[]) args s (.bool (xBool x)) (s3.eff [l] [(l, some (.loop (xState x) (xPend x) T3 m3 ps3 assign3 body3 d3))] 0) := by
  have hlt := hg.2 _ _ hl
  obtain ⟨r0, e0, e0'⟩ := ran_eff (s := s) hg (rd := [l]) (up := []) (n := 0) hg.1 (by simpa using hlt) (by simp)
  obtain ⟨r1, k1⟩ := runCode_ok hP.mixed hcall assign _ _ _ _ _ h1 r0.good
  have hlt2 := r1.good.2 _ _ hl2
  obtain ⟨r2, e2, e2'⟩ := ran_eff (s := s1) r1.good (rd := [l]) (up := [(l, some (.loop .busy pend2 T2 m2 ps2 assign2 body2 d2))]) (n := 0) r1.good.1 (by simpa using hlt2) (by simpa using hlt2)
  obtain ⟨r3, k3⟩ := runCode_ok hP.mixed hcall body _ _ _ _ _ h2 r2.good
  have hlt3 := r3.good.2 _ _ hl3
  obtain ⟨r4, e4, e4'⟩ := ran_eff (s := s3) r3.good (rd := [l]) (up := [(l, some (.loop (xState x) (xPend x) T3 m3 ps3 assign3 body3 d3))]) (n := 0) r3.good.1 (by simpa using hlt3) (by simpa using hlt3)
  have q3 := r3.trans r4
  have q2 := r2.trans q3
  have q1 := r1.trans q2
  refine ⟨r0.trans q1, fun fv' args' w0 ρ H w hA hag hI hfr => ?_⟩
  obtain ⟨hfv, hargs⟩ := hA
  obtain ⟨fn', first', cap', rfl, hfn, hfi, hca⟩ := VR.func_iff.1 hfv
  obtain rfl : first' = #[] := Array.toList_inj.1 hfi.inv_nil
  obtain rfl : cap' = #[] := Array.toList_inj.1 hca.inv_nil
  cases hfn with
  | yield _ k hk =>
    obtain ⟨hag0, hag1⟩ := ag_trans r0 q1 hag
    rw [e0] at hag0
    rw [e0'] at hag1
    obtain ⟨F, tmps, kd, b1, b2, b3, _⟩ := hI.loop ((hag0 l (by simp)).trans hl) hk
    -- the assignments
    obtain ⟨hag1', hag2⟩ := ag_trans r1 q2 hag1
    have hTR := foldTr_TR hm ps.toList args args' T tmps hargs b2
    obtain ⟨ρ1, w1, g1, a1, f1, st1⟩ := k1 F ⟨(ps.toList.zip args').foldl (fun tmps p => tmps.setIfInBounds p.1 p.2) tmps, []⟩ w0 ρ H w ⟨hTR, hm, .nil⟩ hag1' hI (fun i h1 h2 => hfr i h1 (Nat.le_trans h2 q2.ctr))
    obtain ⟨_, hfr1⟩ := fr_trans r1 q2 hfr g1
    -- the round begins
    obtain ⟨hag2', hag3⟩ := ag_trans r2 q3 hag2
    rw [e2] at hag2'
    obtain ⟨F2, tmps2, kd2, u1, u2, u3, u4⟩ := g1.inv.loop ((hag2' l (by simp)).trans hl2) (g1.le _ _ hk)
    have hbegin := run_beginRound (P := P) u1 rfl
    -- its body
    obtain ⟨hag3', hag4⟩ := ag_trans r3 r4 hag3
    rw [e2'] at hag3'
    obtain ⟨ρ3, w3, g3, a3, f3, st3'⟩ := k3 F a1 w0 ρ1 _ _ (f1.mono (Ren.le_refl _)) hag3' (u4 .busy pend2) (fun i h1 h2 => hfr1 i h1 (Nat.le_trans h2 r4.ctr))
    -- its end
    rw [e4, e2'] at hag4
    obtain ⟨F4, tmps4, kd4, t1, t2, t3, t4⟩ := g3.inv.loop ((hag4 l (by simp)).trans hl3) (g3.le _ _ (g1.le _ _ hk))
    have hend := run_endRound (P := P) (xPend x) t1
    have hinv := t4 (xState x) (xPend x)
    have c0 := r0.ctr
    have c1' := r1.ctr
    have c3' := r3.ctr
    have x0 : (s.eff [l] [] 0).ctr = s.ctr := rfl
    have x2 : (s1.eff [l] [(l, some (.loop .busy pend2 T2 m2 ps2 assign2 body2 d2))] 0).ctr = s1.ctr := rfl
    have x4 : (s3.eff [l] [(l, some (.loop (xState x) (xPend x) T3 m3 ps3 assign3 body3 d3))] 0).ctr = s3.ctr := rfl
    refine ⟨ρ3, w3.putObj k.a (.loop { state := xState x, pending := xPend x, fn := F4, tmps := tmps4, params := ps3, assign := assign3, body := body3, defers := kd4.a }), ⟨Ren.le_trans g1.le g3.le, fun i hi => ?_, ?_⟩, .bool (xBool x), _, _, _, rfl, .bool _, .round k.a F ((ps.toList.zip args').foldl (fun tmps p => tmps.setIfInBounds p.1 p.2) tmps) assign body ?_ ?_⟩
    · rw [g3.old i (by omega)]
      exact g1.old i (by omega)
    · rw [r0.nup_trans q1, r1.nup_trans q2, r2.nup_trans q3, r3.nup_trans r4, e0', e2', e4', List.append_nil, ap_append, ap_append, ap_append]
      exact hinv
    · have := run_yield (P := P) (args := args'.toArray) b1 (by simpa using (hargs.length.symm.trans hlen))
      have e : (#[] ++ args'.toArray : Array Value) = args'.toArray := by simp
      rw [e]
      show (Instr.yield k.a args'.toArray).run P w = _
      rw [this]
      dsimp only
      congr 2
      rw [← Array.foldl_toList, Array.toList_zip]
    · intro c cs
      let b : Frame := { (default : Frame) with fn := F, kind := .normal, roundOf := some k.a }
      have hround : Frame.round k.a F ((ps.toList.zip args').foldl (fun tmps p => tmps.setIfInBounds p.1 p.2) tmps) assign body .normal = b.atR ⟨(ps.toList.zip args').foldl (fun tmps p => tmps.setIfInBounds p.1 p.2) tmps, []⟩ ([.code assign] ++ [.beginRound, .code body]) := by
        simp [Frame.round, Frame.atR, b]
      have z1 := st1 b [.beginRound, .code body] (c :: cs) rfl (by simp) (.inl rfl)
      rw [← hround] at z1
      have z2 := Steps.trans z1 (.one (stepR_beginRound (b := b) rfl hbegin))
      have z3 := (st3' b [] (c :: cs) rfl (by simp) (.inl rfl)).head z2
      cases x with
      | nrm => exact Steps.trans z3 (.one (stepR_round_end (b := b) rfl rfl hend))
      | ret => obtain ⟨k2, z3⟩ := z3; exact z3.trans (.one (stepR_round_ret (b := b) rfl rfl hend))
      | exit i => obtain ⟨k2, e, z3⟩ := z3; exact z3.trans (.one (stepR_round_exit (b := b) rfl rfl e hend))

theorem callN_ok {P : Program} {pr : Prims} (hP : POk P pr) : ∀ n, CallOk P (callN P pr n) := by
  intro n
  induction n with
  | zero => intro fv args s v s' h; unfold callN at h; cases h
  | succ n ih =>
    intro fv args s v s' h hg
    show CallDoes P fv args s v s'
    unfold callN at h
    split at h
    · rename_i f first captured
      split at h
      · rename_i fn hf
        split at h
        · rename_i c hb
          cases hc : (Nat.ble fn.ntmps lim && Nat.ble (first.toList ++ args ++ captured.toList).length lim) with
          | false => rw [hc] at h; cases h
          | true =>
            rw [hc] at h
            dsimp only [cond_true] at h
            rw [Bool.and_eq_true] at hc
            split at h
            · cases h
            · rename_i x fr s1 hx hrun
              split at h
              · rename_i s2 hd
                split at h
                · rename_i vs rd hr
                  cases hrd : (rd.all fun i => Nat.blt i s2.ctr) with
                  | false => rw [hrd] at h; cases h
                  | true =>
                    rw [hrd] at h
                    cases h
                    exact body_ok hP ih hf hb (Nat.le_of_ble_eq_true hc.1) (Nat.le_of_ble_eq_true hc.2) hrun (fun i e => hx i e) hd hr (fun i hi => blt_lt (List.all_eq_true.1 hrd i hi)) hg
                · cases h
              · cases h
            · cases h
        · rename_i hb
          split at h
          · rename_i p hp
            exact prim_ok hP hf hb hp hg h
          · cases hn : noAddrL (first.toList ++ args ++ captured.toList) with
            | false => rw [hn] at h; cases h
            | true =>
              rw [hn] at h
              dsimp only [cond_true] at h
              split at h
              · rename_i v1 hs
                cases hv : noAddr v1 with
                | false => rw [hv] at h; cases h
                | true => rw [hv] at h; cases h; exact plain_ok hg hn hs hv
              · cases h
      · cases h
    · rename_i l first captured
      split at h
      · rename_i hfc
        obtain ⟨e1, e2⟩ := List.append_eq_nil_iff.1 hfc
        obtain rfl : first = #[] := Array.toList_inj.1 e1
        obtain rfl : captured = #[] := Array.toList_inj.1 e2
        split at h
        · rename_i pend T m ps assign body d hl
          cases hc : (Nat.beq args.length ps.size && Nat.ble m lim) with
          | false => rw [hc] at h; cases h
          | true =>
            rw [hc] at h
            dsimp only [cond_true] at h
            rw [Bool.and_eq_true] at hc
            split at h
            · rename_i fr s1 h1
              split at h
              · rename_i pend2 T2 m2 ps2 as2 bd2 d2 hl2
                split at h
                · rename_i x fr3 s3 h2
                  split at h
                  · rename_i st3 pend3 T3 m3 ps3 as3 bd3 d3 hl3
                    have := yield_ok hP ih hl (beq_eq hc.1) (Nat.le_of_ble_eq_true hc.2) h1 hl2 h2 hl3 hg
                    cases x <;> (cases h; exact this)
                  · cases h
                · cases h
              · cases h
            · cases h
        · cases h
      · cases h
    · cases h
end Go.Proofs.YtbnmjdmbdoehlaaGreatDoor.Ev
