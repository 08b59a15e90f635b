/- Deferred calls; calls. -/
import Derived.Test.YtbnmjdmbdoehlaaGreatDoorEr
namespace Go.Proofs.YtbnmjdmbdoehlaaGreatDoor.Ev
open Go Go.RowKit

/-- What is asked of the program. -/
structure POk (P : Program) (pr : Prims) : Prop where
  mixed : P.follows .mixedOrders = true
  ng : ∀ (f : Nat) (fn : Func), P.funcs[f]? = some fn → fn.body.isSome = true → (fn.name == "runtime.NumGoroutine") = false
  clone : ∀ (f : Nat) (fn : Func), primOf pr f = some .mapsClone → P.funcs[f]? = some fn → fn.body = none → ∀ args w, (callFunc f args).run P w = (do pure (.value (← Extern.MapsClone.clone args)) : Sem Next).run P w

theorem call_body {P : Program} {pr : Prims} (hP : POk P pr) {f : Nat} {fn : Func} (hf : P.funcs[f]? = some fn) (hb : fn.body.isSome = true) (cap args : Array Value) (w : World) : (invoke (.fn (.func f) cap) args).run P w = .ok (.enter f (args ++ cap)) w := by
  have hn := hP.ng f fn hf hb
  have hb' : fn.body ≠ none := by cases h : fn.body <;> simp_all
  have hn' : fn.name ≠ "runtime.NumGoroutine" := by simpa using hn
  simp [invoke, callFunc, hf, hn', hb']

theorem ag_trans {s s1 s' : St} {H : G} (r : Ran s s1) (k : Ran s1 s') (h : ∀ i ∈ nrd s s', H i = s.heap.get i) : (∀ i ∈ nrd s s1, H i = s.heap.get i) ∧ ∀ i ∈ nrd s1 s', ap H (nup s s1) i = s1.heap.get i := by
  rw [r.nrd_trans k] at h
  refine ⟨fun i hi => h i (List.mem_append_right _ hi), fun i hi => ?_⟩
  rw [r.heap]
  exact ap_agree (h i (List.mem_append_left _ hi))
theorem fr_trans {P : Program} {w0 : World} {s s1 s' : St} {ρ ρ1 : Ren} {H1 : G} {w1 : World} (r : Ran s s1) (k : Ran s1 s') (h : ∀ i, s.ctr ≤ i → i ≤ s'.ctr → ρ i = none) (g : Goes P w0 ρ s.ctr s1.ctr ρ1 H1 w1) : (∀ i, s.ctr ≤ i → i ≤ s1.ctr → ρ i = none) ∧ ∀ i, s1.ctr ≤ i → i ≤ s'.ctr → ρ1 i = none := by
  have c1 := r.ctr
  have c2 := k.ctr
  exact ⟨fun i h1 h2 => h i h1 (by omega), fun i h1 h2 => by rw [g.old i (by omega)]; exact h i (by omega) h2⟩

theorem runDefers_ok {P : Program} {pr : Prims} (hP : POk P pr) {call : CallF} (hcall : CallOk P call) : ∀ (ds : List Deferred) (s s' : St), runDefers P call ds s = some s' → Good s →
    Ran s s' ∧ ∀ ds', Run P s s' (fun ρ _ => L2 (DR ρ) ds ds') (fun w _ w' => ∀ (fr : Frame) (cs : List Frame), fr.mode = .returning → fr.defers = ds' → Steps P (lone fr cs w) (lone { fr with defers := [] } cs w')) := by
  intro ds
  induction ds with
  | nil =>
    intro s s' h hg
    cases h
    refine ⟨Ran.refl hg, fun ds' w0 ρ H w hA _ hI _ => ?_⟩
    have hd := hA.inv_nil
    have e2 : nup s s = [] := nup_of rfl
    rw [e2]
    refine ⟨ρ, w, hI.same _, fun fr cs hm hd' => ?_⟩
    rw [hd] at hd'
    have : ({ fr with defers := [] } : Frame) = fr := by cases fr; cases hd'; rfl
    rw [this]; exact .refl _ _
  | cons d ds ih =>
    intro s s' h hg
    unfold runDefers at h
    split at h
    · rename_i b ht
      split at h
      · rename_i hb
        have hlt := hg.2 _ _ hb
        obtain ⟨r0, e0, e0'⟩ := ran_eff (s := s) hg (rd := [b]) (up := [(b, some (.defd true))]) (n := 0) hg.1 (by simpa using hlt) (by simpa using hlt)
        obtain ⟨r1, hk⟩ := ih _ _ h r0.good
        refine ⟨r0.trans r1, fun ds' w0 ρ H w hA hag hI hfr => ?_⟩
        obtain ⟨hag0, hag1⟩ := ag_trans r0 r1 hag
        obtain ⟨d', m', rfl, hd, hA'⟩ := hA.inv_cons
        rw [e0'] at hag1
        rw [e0] at hag0
        have hHb : H b = some (.defd false) := (hag0 b (by simp)).trans hb
        have : ∃ k, ρ b = some k ∧ d'.target = .collected k.a := by
          cases hd with
          | fn => cases ht
          | coll r k hr => cases ht; exact ⟨k, hr, rfl⟩
        obtain ⟨k, hρb, ht'⟩ := this
        obtain ⟨k', o', hk', hlo, hbk, hor⟩ := hI.live _ _ hHb
        obtain rfl : k' = k := Option.some.inj (hk'.symm.trans hρb)
        cases hor with
        | defd =>
          have i1 := hI.put hHb hρb (o2 := .defd true) (o2' := .deferred none) .defdTaken
          have htk := run_takeDeferred (P := P) hbk
          obtain ⟨ρ2, w2, g2, st⟩ := hk m' w0 ρ _ _ hA' hag1 i1 (fun i h1 h2 => hfr i h1 h2)
          refine ⟨ρ2, w2, ⟨g2.le, fun i hi => g2.old i hi, ?_⟩, fun fr cs hm hd' => ?_⟩
          · rw [r0.nup_trans r1, e0', ap_append]; exact g2.inv
          · have := step_collected (cs := cs) (fr := fr) (by rw [hm]; simp) hd' ht' htk
            refine .head this ?_
            exact st { fr with defers := [] ++ m' } cs hm rfl
      · cases h
    · rename_i g captured ht
      cases hb : hasBody P g with
      | false => rw [hb] at h; cases h
      | true =>
        rw [hb] at h
        dsimp only [cond_true] at h
        split at h
        · rename_i v s1 hc
          obtain ⟨r0, hc'⟩ := hcall _ _ _ _ _ hc hg
          obtain ⟨r1, hk⟩ := ih _ _ h r0.good
          refine ⟨r0.trans r1, fun ds' w0 ρ H w hA hag hI hfr => ?_⟩
          obtain ⟨hag0, hag1⟩ := ag_trans r0 r1 hag
          obtain ⟨d', m', rfl, hd, hA'⟩ := hA.inv_cons
          have : ∃ cap' args', d' = { target := .fn (.func g) cap', args := args' } ∧ LR ρ captured.toList cap'.toList ∧ LR ρ d.args.toList args'.toList := by
            cases hd with
            | fn g2 c c' a a' h1 h2 => cases ht; exact ⟨_, _, rfl, h1, h2⟩
            | coll r k hr => cases ht
          obtain ⟨cap', args', rfl, hcap, hargs⟩ := this
          obtain ⟨ρ1, w1, g1, v', fn, first, cap, ef, hv', hinv⟩ := hc' (.func (.func g) #[] cap') args'.toList w0 ρ H w ⟨VR.func_iff.2 ⟨_, _, _, rfl, .func g, .nil, hcap⟩, hargs⟩ hag0 hI (fun i h1 h2 => hfr i h1 (Nat.le_trans h2 r1.ctr))
          cases ef
          obtain ⟨_, hfr1⟩ := fr_trans r0 r1 hfr g1
          obtain ⟨ρ2, w2, g2, st⟩ := hk m' w0 ρ1 _ w1 (hA'.mono fun _ _ h => h.mono g1.le) hag1 g1.inv hfr1
          refine ⟨ρ2, w2, ?_, fun fr cs hm hd' => ?_⟩
          · rw [r0.nup_trans r1, ap_append]; exact g1.trans g2 r0.ctr r1.ctr
          · unfold hasBody at hb
            split at hb
            · rename_i fn hf
              have hcb := call_body hP hf hb cap' args' w
              have e0 : (#[] ++ args'.toList.toArray : Array Value) = args' := by simp
              rw [e0] at hinv
              cases hinv with
              | val h => rw [hcb] at h; cases h
              | round l f2 tmps as bd h hr => rw [hcb] at h; cases h
              | body f2 as h hbr =>
                rw [hcb] at h
                cases h
                obtain ⟨fr2, s1, q1, q2, q3, q4, fn2, q5, q6⟩ := hbr .deferred ({ fr with defers := m' } :: cs) (.inr ⟨rfl, _, _, rfl, hm⟩)
                refine .head (step_defer (by rw [hm]; simp) hd' rfl hcb) (.trans s1 (.head (step_going_returned (v := v') q1 ⟨q2, q3, fn2, by rw [q4]; exact q5, q6⟩) ?_))
                have : ({ ({ fr with defers := m' } : Frame) with mode := settle ({ fr with defers := m' } : Frame).mode } : Frame) = { fr with defers := m' } := by
                  show ({ fr with defers := m', mode := settle fr.mode } : Frame) = { fr with defers := m' }
                  rw [hm]; cases fr; cases hm; rfl
                rw [this]
                exact st { fr with defers := m' } cs hm rfl
            · cases hb
        · cases h
    · cases h
end Go.Proofs.YtbnmjdmbdoehlaaGreatDoor.Ev
