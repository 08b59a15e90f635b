/- Look-ups in maps whose elements stand as themselves. -/
import Derived.Test.YtamcfjjnaolpmaaGreatDoorE0
import Derived.Maps.OwnSet
import Derived.Maps.RangeWalk
namespace Go.Proofs.YtamcfjjnaolpmaaGreatDoor
open Go.RowKit
set_option maxRecDepth 100000

/-- 'm[k]', or 'x, ok := m[k]', where the key isn't there. -/
theorem wpList_look_no {W : World} {ops : Array Oper} {rest : List Oper} {o : Oper} {a : Act} {Q : Exit → Act → World → Prop} (hg : o.guard = none) (c : Bool) (T K E : TypeId) (m x : Operand)
    (hop : o.op = Op.lookup T m x c) (hT : Tryz.prog.underlying T = some (.map K E)) (hK : Maps.Keyed Tryz.prog K) {z : Value} (hz : (zeroValue E).run Tryz.prog W = .ok z W) {b n : Nat} {D : DataW Value} (hm : a.eval m = .map (some b))
    (hown : W.ownsMap Tryz.prog K selfElem b n D) {key : Value} {kl : Lit} (hkey : keyOf Tryz.prog K key = some kl) (hx : a.eval x = key) (habs : ∀ zd, D.atKey kl zd = zd)
    (hG : wpList Tryz.prog ops Q rest (a.put o.dst (if c then .tuple #[z, .bool false] else z)) W) :
    wpList Tryz.prog ops Q (o :: rest) a W := by
  refine wpList_plain hg fun K' hK' => ?_
  obtain ⟨es, clock, hb, F, _, hD⟩ := hown
  rcases Maps.fit_look c hK hT hz hb F hkey with ⟨hrun, _, _⟩ | ⟨e0, y, _, _, _, hR, hat, _⟩
  · unfold Oper.wp
    simp [execOp, hop, hm, hx, hrun, Result.andThen]
    exact hK' _ _ hG
  · rw [← hD] at hat
    have a := (hat .nil).symm.trans (habs .nil)
    have c := (hat (.lit (.bool true))).symm.trans (habs (.lit (.bool true)))
    rw [a] at c
    cases c

/-- 'm[k]', or 'x, ok := m[k]', where the key is there. -/
theorem wpList_look_yes {W : World} {ops : Array Oper} {rest : List Oper} {o : Oper} {a : Act} {Q : Exit → Act → World → Prop} (hg : o.guard = none) (c : Bool) (T K E : TypeId) (m x : Operand)
    (hop : o.op = Op.lookup T m x c) (hT : Tryz.prog.underlying T = some (.map K E)) (hK : Maps.Keyed Tryz.prog K) {z : Value} (hz : (zeroValue E).run Tryz.prog W = .ok z W) {b n : Nat} {D : DataW Value} (hm : a.eval m = .map (some b))
    (hown : W.ownsMap Tryz.prog K selfElem b n D) {key : Value} {kl : Lit} (hkey : keyOf Tryz.prog K key = some kl) (hx : a.eval x = key) {v : Value} (hat' : ∀ zd, D.atKey kl zd = .held v)
    (hG : wpList Tryz.prog ops Q rest (a.put o.dst (if c then .tuple #[v, .bool true] else v)) W) :
    wpList Tryz.prog ops Q (o :: rest) a W := by
  refine wpList_plain hg fun K' hK' => ?_
  obtain ⟨es, clock, hb, F, _, hD⟩ := hown
  rcases Maps.fit_look c hK hT hz hb F hkey with ⟨_, _, hat⟩ | ⟨e0, y, _, _, hrun, hR, hat, _⟩
  · rw [← hD] at hat
    have := hat .nil
    rw [hat'] at this
    cases this
  · rw [← hD] at hat
    have := hat .nil
    rw [hat'] at this
    simp only [selfElem, Option.some.injEq] at hR
    rw [← hR] at this
    injection this with this
    unfold Oper.wp
    simp [execOp, hop, hm, hx, hrun, Result.andThen, ← this]
    exact hK' _ _ hG

theorem own_ext {w w' : World} (hx : Ext w w') {K : TypeId} {b n : Nat} {D : DataW Value} (hm : w.ownsMap Tryz.prog K selfElem b n D) : w'.ownsMap Tryz.prog K selfElem b n D := by
  have hlt := hm.lt
  obtain ⟨es, clock, hb, h⟩ := hm
  exact ⟨es, clock, (hx.heap hlt).trans hb, h⟩
theorem own_grown {w w' : World} {r : Option Nat} (hx : w.grownBy w' r) {K : TypeId} {b n : Nat} (hr : some b ≠ r) {D : DataW Value} (hm : w.ownsMap Tryz.prog K selfElem b n D) : w'.ownsMap Tryz.prog K selfElem b n D := by
  have hlt := hm.lt
  obtain ⟨es, clock, hb, h⟩ := hm
  exact ⟨es, clock, (hx.block b hlt hr).trans hb, h⟩
end Go.Proofs.YtamcfjjnaolpmaaGreatDoor
