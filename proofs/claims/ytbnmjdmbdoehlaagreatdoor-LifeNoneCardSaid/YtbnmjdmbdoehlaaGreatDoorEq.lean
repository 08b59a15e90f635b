/- Code, all of it. -/
import Derived.Test.YtbnmjdmbdoehlaaGreatDoorEp
namespace Go.Proofs.YtbnmjdmbdoehlaaGreatDoor.Ev
open Go Go.RowKit

theorem draw_ok {P : Program} (hm : P.follows .mixedOrders = true) {call : CallF} (hcall : CallOk P call) {rnd : Bool} {id : Nat} {ops : Array Oper} {fr fr' : Fr} {s s' : St} {rs : List Rec} (h : runDraw P call rnd ops ops.toList fr s [] = some (fr', s', rs))
    (he : edgesOk ops = true) (ha : apartOk ops = true) (hd : drawOk ops rs = true) (hg : Good s) : CodeOk P rnd [.code (.region id ops true)] fr s .nrm fr' s' := by
  obtain ⟨r, k⟩ := runDraw_ok hcall h he ha hd hg
  refine ⟨r, fun F a w0 ρ H w hA hag hI hfr => ?_⟩
  obtain ⟨ρ', w', g, a', h1, h2⟩ := k (w.tape w.drawn (.order F id)) a w0 ρ H { w with drawn := w.drawn + 1 } hA hag (hI.drew _) hfr
  refine ⟨ρ', w', g, a', h1, fun b k cs e1 e2 e3 => ?_⟩
  subst e1
  refine (Steps.one ?_).trans (h2 b k cs e2 e3)
  have := stepR_region_draw (P := P) (b := b) (a := a) (k := k) (cs := cs) (w := w) (ops := ops) (id := id)
  rw [hm] at this
  have e : Region.schedule true ops (w.tape w.drawn (.order b.fn id)) = Region.linearise .any ops (w.tape w.drawn (.order b.fn id)) := by simp [Region.schedule]
  rw [e] at this
  exact this

theorem region_ok {P : Program} {call : CallF} (hcall : CallOk P call) {rnd : Bool} {id : Nat} {ops : Array Oper} {fr fr' : Fr} {s s' : St} (h : runOps P call rnd ops ops.toList fr s = some (fr', s')) (hg : Good s) :
    CodeOk P rnd [.code (.region id ops false)] fr s .nrm fr' s' := by
  obtain ⟨r, k⟩ := runOps_ok hcall ops.toList 0 fr s fr' s' rfl h hg
  refine ⟨r, fun F a w0 ρ H w hA hag hI hfr => ?_⟩
  obtain ⟨ρ', w', g, a', h1, h2⟩ := k a w0 ρ H w hA hag hI hfr
  refine ⟨ρ', w', g, a', h1, fun b k cs e1 e2 e3 => (Steps.one ?_).trans (h2 b k cs e2 e3)⟩
  have := stepR_region (P := P) (b := b) (a := a) (k := k) (cs := cs) (w := w) (ops := ops) (id := id)
  rw [List.range_eq_range'] at this
  simpa using this

theorem CodeOk.block {P : Program} {rnd : Bool} {c : List Item} {id : Nat} {fr fr' : Fr} {s s' : St} (h : CodeOk P rnd c fr s (.exit id) fr' s') : CodeOk P rnd (c ++ [.inBlock id]) fr s .nrm fr' s' := by
  refine ⟨h.1, fun F a => (h.2 F a).mono (fun _ _ h => h) fun w ρ' w' ⟨a', f1, r1⟩ => ⟨a', f1, fun b k cs e1 e2 e3 => ?_⟩⟩
  have := r1 b ([.inBlock id] ++ k) cs e1 e2 e3
  rw [← List.append_assoc] at this
  obtain ⟨k2, e, st⟩ := this
  refine Steps.trans st (.one (stepR_exit (e.trans ?_)))
  simp [exitTo]

theorem runCode_ok {P : Program} (hm : P.follows .mixedOrders = true) {call : CallF} (hcall : CallOk P call) {rnd : Bool} : ∀ (c : Code) (fr : Fr) (s : St) (x : X) (fr' : Fr) (s' : St), runCode P call rnd c fr s = some (x, fr', s') → Good s →
    CodeOk P rnd [.code c] fr s x fr' s' := by
  intro c
  induction c with
  | skip =>
    intro fr s x fr' s' h hg
    unfold runCode at h
    cases h
    exact .ends hg fun b a k cs w => stepR_skip
  | region id ops draw =>
    intro fr s x fr' s' h hg
    unfold runCode at h
    cases draw with
    | true =>
      dsimp only [cond_true] at h
      cases hc : (edgesOk ops && apartOk ops) with
      | false => rw [hc] at h; cases h
      | true =>
        rw [hc] at h
        dsimp only [cond_true] at h
        rw [Bool.and_eq_true] at hc
        split at h
        · rename_i fr1 s1 rs hr
          cases hd : drawOk ops rs with
          | false => rw [hd] at h; cases h
          | true =>
            rw [hd] at h
            cases h
            exact draw_ok hm hcall hr hc.1 hc.2 hd hg
        · cases h
    | false =>
      dsimp only [cond_false] at h
      split at h
      · rename_i fr1 s1 hr
        cases h
        exact region_ok hcall hr hg
      · cases h
  | seq a b iha ihb =>
    intro fr s x fr' s' h hg
    unfold runCode at h
    have main : CodeOk P rnd ([.code a] ++ [.code b]) fr s x fr' s' := by
      split at h
      · rename_i fr1 s1 h1
        have k1 := iha _ _ _ _ _ h1 hg
        exact k1.seq (ihb _ _ _ _ _ h k1.1.good)
      · rename_i hne
        have hx : x ≠ .nrm := fun e => hne fr' s' (by rw [h, e])
        exact (iha _ _ _ _ _ h hg).pass hx fun id k _ => rfl
    exact main.pre fun ρ b a k cs w _ => stepR_seq
  | cond c a b iha ihb =>
    intro fr s x fr' s' h hg
    unfold runCode at h
    cases hok : okOperand c with
    | false => rw [hok] at h; cases h
    | true =>
      rw [hok] at h
      dsimp only [cond_true] at h
      split at h
      · rename_i d hd
        have ht : ∀ (ρ : Ren) (a : Act), FR ρ fr a → a.eval c = .bool d := by
          intro ρ a hA
          have := ev_rel hA.tmps hok
          rw [hd] at this
          generalize a.eval c = u at this
          cases this; rfl
        cases d with
        | true => exact (iha _ _ _ _ _ h hg).pre fun ρ b a k cs w hA => stepR_cond (t := true) (ht ρ a hA)
        | false => exact (ihb _ _ _ _ _ h hg).pre fun ρ b a k cs w hA => stepR_cond (t := false) (ht ρ a hA)
      · cases h
  | block id body ih =>
    intro fr s x fr' s' h hg
    unfold runCode at h
    have main : CodeOk P rnd ([.code body] ++ [.inBlock id]) fr s x fr' s' := by
      split at h
      · rename_i i fr1 s1 h1
        have k1 := ih _ _ _ _ _ h1 hg
        cases hb : Nat.beq i id with
        | true =>
          rw [hb] at h
          cases h
          obtain rfl := beq_eq hb
          exact k1.block
        | false =>
          rw [hb] at h
          cases h
          refine k1.pass (by simp) fun id' k e => ?_
          cases e
          have : id ≠ i := fun e => by rw [e] at hb; simp at hb
          simp [exitTo, this]
      · rename_i hne
        have k1 := ih _ _ _ _ _ h hg
        cases x with
        | nrm => exact k1.seq (.ends k1.1.good fun b a k cs w => stepR_inBlock)
        | ret => exact k1.pass (by simp) fun id' k e => by cases e
        | exit i => exact absurd h (hne i fr' s')
    exact main.pre fun ρ b a k cs w _ => stepR_block
  | loop body ih =>
    intro fr s x fr' s' h hg
    unfold runCode at h
    exact (loopN_ok ih _ _ _ _ _ _ h hg).2.pre fun ρ b a k cs w _ => stepR_loop
  | exit id =>
    intro fr s x fr' s' h hg
    unfold runCode at h
    cases h
    exact ⟨Ran.refl hg, fun F a => Run.refl fun ρ w hA => ⟨a, hA, fun b k cs _ _ _ => ⟨k, rfl, .refl _ _⟩⟩⟩
  | ret =>
    intro fr s x fr' s' h hg
    unfold runCode at h
    cases h
    exact ⟨Ran.refl hg, fun F a => Run.refl fun ρ w hA => ⟨a, hA, fun b k cs _ _ _ => ⟨k, .refl _ _⟩⟩⟩
  | rangeFunc f ps assign body _ _ =>
    intro fr s x fr' s' h hg
    cases rnd with
    | true => unfold runCode at h; cases h
    | false => exact rangeFunc_ok hcall h hg
  | scope body _ => intro fr s x fr' s' h; unfold runCode at h; cases h
  | label l => intro fr s x fr' s' h; unfold runCode at h; cases h
  | goto l => intro fr s x fr' s' h; unfold runCode at h; cases h
  | refuse why => intro fr s x fr' s' h; unfold runCode at h; cases h
end Go.Proofs.YtbnmjdmbdoehlaaGreatDoor.Ev
