/- Regions whose order is drawn: any order comes to the text's. -/
import Derived.Test.YtbnmjdmbdoehlaaGreatDoorEn
namespace Go.Proofs.YtbnmjdmbdoehlaaGreatDoor.Ev
open Go Go.RowKit

/-- What is known of a region's run in the text's order. -/
structure DC (P : Program) (call : CallF) (rnd : Bool) (ops : Array Oper) (frs : Nat → Fr) (ss : Nat → St) (vs : Nat → Value) (R : Nat → Rec) : Prop where
  hcall : CallOk P call
  st : ∀ j o, ops[j]? = some o → DStep P call rnd ops o (frs j) (ss j) (vs j) (R j) (frs (j + 1)) (ss (j + 1))
  good : Good (ss 0)
  apart : ∀ k j x y, k < j → ops[k]? = some x → ops[j]? = some y → bef ops k j = false → Oper.apart ops x y = true
  compat : ∀ k j, k < j → j < ops.size → bef ops k j = false → compat (R k) (R j) = true
  edges : ∀ j o, ops[j]? = some o → ∀ e ∈ o.after, Region.binds .any e = true → e.on < j

def wm (R : Nat → Rec) (j : Nat) : Up := (R j).up
def wt (ops : Array Oper) (N : Nat) (vs : Nat → Value) (j : Nat) : List (Nat × Value) := match ops[j]? with | some o => wt1 o.dst N (vs j) | none => []

section
variable {P : Program} {call : CallF} {rnd : Bool} {ops : Array Oper} {frs : Nat → Fr} {ss : Nat → St} {vs : Nat → Value} {R : Nat → Rec}

theorem DC.pre (D : DC P call rnd ops frs ss vs R) : ∀ j, j ≤ ops.size → Ran (ss 0) (ss j) ∧ nup (ss 0) (ss j) = acc (wm R) (fun _ => true) j ∧ (∀ k, k < j → ∀ i ∈ (R k).rd, i ∈ nrd (ss 0) (ss j)) ∧ (∀ k, k ≤ j → (ss k).ctr ≤ (ss j).ctr) ∧
    (frs j).n = (frs 0).n ∧ (frs j).defers = (frs 0).defers ∧ ((frs 0).n ≤ lim → gtv (frs j).tmps = apF (gtv (frs 0).tmps) (acc (wt ops (frs 0).n vs) (fun _ => true) j)) := by
  intro j
  induction j with
  | zero =>
    intro _
    refine ⟨Ran.refl D.good, nup_of rfl, fun k hk => by omega, fun k hk => ?_, rfl, rfl, fun _ => rfl⟩
    have : k = 0 := by omega
    subst this; exact Nat.le_refl _
  | succ j ih =>
    intro hj
    obtain ⟨h1, h2, h3, h4, h5, h6, h7⟩ := ih (by omega)
    have ho : ops[j]? = some ops[j] := Array.getElem?_eq_getElem (by omega)
    obtain ⟨g1, g2, g3, g4, g5, g6, g7⟩ := (D.st j _ ho).ran D.hcall h1.good
    refine ⟨h1.trans g1, ?_, ?_, ?_, ?_, ?_, ?_⟩
    · rw [h1.nup_trans g1, g3, h2]; rfl
    · intro k hk i hi
      rw [h1.nrd_trans g1, g2]
      by_cases e : k = j
      · subst e; exact List.mem_append_left _ hi
      · exact List.mem_append_right _ (h3 k (by omega) i hi)
    · intro k hk
      by_cases e : k = j + 1
      · subst e; exact Nat.le_refl _
      · exact Nat.le_trans (h4 k (by omega)) g1.ctr
    · rw [g7, (Fr.put_n _ _ _).1, h5]
    · rw [g7, (Fr.put_n _ _ _).2, h6]
    · intro hn
      rw [g7, Fr.put_get (by rw [h5]; exact hn), h7 hn, h5]
      have e : acc (wt ops (frs 0).n vs) (fun _ => true) (j + 1) = wt ops (frs 0).n vs j ++ acc (wt ops (frs 0).n vs) (fun _ => true) j := if_pos rfl
      have e2 : wt ops (frs 0).n vs j = wt1 ops[j].dst (frs 0).n (vs j) := by unfold wt; rw [ho]
      rw [e, apF_append, e2]

theorem DC.one (D : DC P call rnd ops frs ss vs R) {j : Nat} {o : Oper} (ho : ops[j]? = some o) :
    Ran (ss j) (ss (j + 1)) ∧ nrd (ss j) (ss (j + 1)) = (R j).rd ∧ nup (ss j) (ss (j + 1)) = (R j).up ∧ (R j).c = (ss j).ctr ∧ (R j).c ≤ (R j).c' ∧ (R j).c' ≤ (ss (j + 1)).ctr := by
  have hj : j < ops.size := (Array.getElem?_eq_some_iff.1 ho).1
  obtain ⟨g1, g2, g3, g4, g5, g6, _⟩ := (D.st j _ ho).ran D.hcall (D.pre j (by omega)).1.good
  exact ⟨g1, g2, g3, g4, g5, g6⟩

theorem compat_spec {rk rj : Rec} (h : compat rk rj = true) : (∀ i ∈ rj.rd, ¬ Hits rk.up i ∧ ¬ (rk.c ≤ i ∧ i < rk.c')) ∧ (∀ i, Hits rj.up i → ¬ Hits rk.up i ∧ ¬ (rk.c ≤ i ∧ i < rk.c') ∧ i ∉ rk.rd) := by
  unfold compat at h
  rw [Bool.and_eq_true] at h
  have hu : ∀ {i : Nat}, hitUp rk i = false → ¬ Hits rk.up i ∧ ¬ (rk.c ≤ i ∧ i < rk.c') := by
    intro i hi
    unfold hitUp at hi
    rw [Bool.or_eq_false_iff] at hi
    refine ⟨fun ⟨p, hp, e⟩ => ?_, fun ⟨h1, h2⟩ => ?_⟩
    · have := List.any_eq_false.1 hi.2 p hp
      rw [e] at this; simp at this
    · have := hi.1
      rw [Nat.ble_eq_true_of_le h1, lt_blt h2] at this; cases this
  refine ⟨fun i hi => hu ?_, fun i ⟨p, hp, e⟩ => ?_⟩
  · have := List.all_eq_true.1 h.1 i hi
    simpa using this
  · have := List.all_eq_true.1 h.2 p hp
    rw [e, Bool.and_eq_true] at this
    obtain ⟨a, b⟩ := hu (by simpa using this.1 : hitUp rk i = false)
    refine ⟨a, b, fun hm => ?_⟩
    have h2 := this.2
    rw [Bool.not_eq_true'] at h2
    have := List.any_eq_false.1 h2 i hm
    simp at this

/-- Where the machine stands when just those of S are done. -/
structure DI (D : DC P call rnd ops frs ss vs R) (w0 : World) (ρ : Ren) (H : G) (a : Act) (S : Nat → Bool) (ρS : Ren) (wS : World) (aS : Act) : Prop where
  inv : Inv P w0 ρS (apF H (acc (wm R) S ops.size)) wS
  le : ρ.le ρS
  old : ∀ i, (∀ k, k < ops.size → S k = true → ¬ ((R k).c ≤ i ∧ i < (R k).c')) → ρS i = ρ i
  tm : ∀ t, VR ρS (apF (gtv (frs 0).tmps) (acc (wt ops (frs 0).n vs) S ops.size) t) (aS.tmps.getD t undef)
  size : aS.tmps.size = (frs 0).n
  defers : aS.defers = a.defers
  closed : ∀ j k, j < ops.size → S j = true → bef ops k j = true → S k = true

/-- Those that may come in either order. -/
theorem DI.unord {D : DC P call rnd ops frs ss vs R} {w0 : World} {ρ : Ren} {H : G} {a : Act} {S : Nat → Bool} {ρS : Ren} {wS : World} {aS : Act} (I : DI D w0 ρ H a S ρS wS aS) {j : Nat} {o : Oper} (ho : ops[j]? = some o) (hj : S j = false)
    (hr : ∀ e ∈ o.after, Region.binds .any e = true → S e.on = true) {k : Nat} (hk : k < ops.size) (hd : S k ≠ decide (k < j)) : (k < j ∧ bef ops k j = false) ∨ (j < k ∧ S k = true ∧ bef ops j k = false) := by
  have hjs : j < ops.size := (Array.getElem?_eq_some_iff.1 ho).1
  rcases Nat.lt_trichotomy k j with h | h | h
  · left
    refine ⟨h, ?_⟩
    cases hb : bef ops k j with
    | false => rfl
    | true =>
      exfalso
      obtain ⟨o', ho', e, he, hbi, hon⟩ := bef_edge hb
      rw [ho] at ho'; cases ho'
      have hS := hr e he hbi
      have hlt := D.edges j o ho e he hbi
      have : S k = true := by
        rcases hon with rfl | hon
        · exact hS
        · exact I.closed e.on k (by omega) hS hon
      rw [this] at hd
      exact hd (by simp [h])
  · subst h; rw [hj] at hd; simp at hd
  · right
    have hS : S k = true := by
      cases hs : S k with
      | true => rfl
      | false => rw [hs] at hd; exact absurd (by simp; omega) hd
    refine ⟨h, hS, ?_⟩
    cases hb : bef ops j k with
    | false => rfl
    | true => rw [I.closed k j hk hS hb] at hj; cases hj

theorem wt_hits {N j i : Nat} {o : Oper} (ho : ops[j]? = some o) (h : Hits (wt ops N vs j) i) : o.dst = some i := by
  unfold wt at h
  rw [ho] at h
  unfold wt1 at h
  obtain ⟨p, hp, e⟩ := h
  cases hd : o.dst with
  | none => simp [hd] at hp
  | some d =>
    simp only [hd] at hp
    by_cases hl : d < N
    · rw [if_pos hl] at hp
      simp at hp
      subst hp
      simpa using e
    · rw [if_neg hl] at hp; cases hp

theorem DI.step {D : DC P call rnd ops frs ss vs R} (hn : (frs 0).n ≤ lim) {w0 : World} {ρ : Ren} {H : G} {a : Act} (hH : ∀ i ∈ nrd (ss 0) (ss ops.size), H i = (ss 0).heap.get i) (hfr : ∀ i, (ss 0).ctr ≤ i → i ≤ (ss ops.size).ctr → ρ i = none)
    {S : Nat → Bool} {ρS : Ren} {wS : World} {aS : Act} (I : DI D w0 ρ H a S ρS wS aS) {j : Nat} {o : Oper} (ho : ops[j]? = some o) (hj : S j = false) (hr : ∀ e ∈ o.after, Region.binds .any e = true → S e.on = true) :
    ∃ ρ' w' a', DI D w0 ρ H a (fun k => k == j || S k) ρ' w' a' ∧ ∀ (b : Frame) (rest : List Nat) (k : List Item) (cs : List Frame), (rnd = false → b.roundOf = none) → Calm b.kind cs →
      Steps P (lone (b.atR aS (.inRegion ops (j :: rest) :: k)) cs wS) (lone (b.atR a' (.inRegion ops rest :: k)) cs w') := by
  have hjs : j < ops.size := (Array.getElem?_eq_some_iff.1 ho).1
  obtain ⟨p1, p2, p3, p4, p5, p6, p7⟩ := D.pre j (by omega)
  obtain ⟨q1, q2, q3, q4, q5, q6⟩ := D.one ho
  have hbind : ∀ k o', ops[k]? = some o' → (R k).c = (ss k).ctr ∧ (R k).c ≤ (R k).c' ∧ (R k).c' ≤ (ss (k + 1)).ctr := fun k o' h => let ⟨_, _, _, a, b, c⟩ := D.one h; ⟨a, b, c⟩
  have hun : ∀ k, k < ops.size → S k ≠ decide (k < j) → (k < j ∧ bef ops k j = false) ∨ (j < k ∧ S k = true ∧ bef ops j k = false) := fun k => I.unord ho hj hr
  -- slots that the operation looks at
  have hlook : ∀ t ∈ o.looksAt ops, VR ρS (gtv (frs j).tmps t) (aS.tmps.getD t undef) := by
    intro t ht
    rw [p7 hn, ← acc_lt _ (fun _ => true) j ops.size (by omega)]
    rw [← acc_agree (S := S) ops.size fun k hk hd hh => ?_]
    · exact I.tm t
    · have hok : ops[k]? = some ops[k] := Array.getElem?_eq_getElem hk
      have hdst := wt_hits hok hh
      rcases hun k hk hd with ⟨h1, h2⟩ | ⟨h1, _, h2⟩
      · exact (Oper.apart_spec (D.apart k j _ _ h1 hok ho h2)).1 t hdst ht
      · exact (Oper.apart_spec (D.apart j k _ _ h1 ho hok h2)).2.2 t hdst ht
  -- slots afterwards
  have htm : ∀ t, apF (apF (gtv (frs 0).tmps) (acc (wt ops (frs 0).n vs) S ops.size)) (wt1 o.dst (frs 0).n (vs j)) t = apF (gtv (frs 0).tmps) (acc (wt ops (frs 0).n vs) (fun k => k == j || S k) ops.size) t := by
    intro t
    have e : wt1 o.dst (frs 0).n (vs j) = wt ops (frs 0).n vs j := by unfold wt; rw [ho]
    rw [e]
    refine acc_insert ops.size hjs fun k h1 h2 h3 h4 h5 => ?_
    have hok : ops[k]? = some ops[k] := Array.getElem?_eq_getElem h2
    rcases hun k h2 (by rw [h3]; simp; omega) with ⟨h, _⟩ | ⟨_, _, hb⟩
    · omega
    · exact (Oper.apart_spec (D.apart j k _ _ h1 ho hok hb)).2.1 t (wt_hits ho h4) (wt_hits hok h5)
  -- memory afterwards
  have hmem : ∀ i, apF (apF H (acc (wm R) S ops.size)) (wm R j) i = apF H (acc (wm R) (fun k => k == j || S k) ops.size) i := by
    intro i
    refine acc_insert ops.size hjs fun k h1 h2 h3 h4 h5 => ?_
    rcases hun k h2 (by rw [h3]; simp; omega) with ⟨h, _⟩ | ⟨_, _, hb⟩
    · omega
    · exact ((compat_spec (D.compat j k h1 h2 hb)).2 i h5).1 h4
  have hcl : ∀ j' k, j' < ops.size → (j' == j || S j') = true → bef ops k j' = true → (k == j || S k) = true := by
    intro j' k h1 h2 h3
    by_cases e : j' = j
    · subst e
      obtain ⟨o', ho', e, he, hbi, hon⟩ := bef_edge h3
      rw [ho] at ho'; cases ho'
      have hS := hr e he hbi
      have hlt := D.edges j' o ho e he hbi
      have : S k = true := by
        rcases hon with rfl | hon
        · exact hS
        · exact I.closed e.on k (by omega) hS hon
      rw [this]; simp
    · have : S j' = true := by
        rw [Bool.or_eq_true] at h2
        exact h2.resolve_left (by simpa using e)
      rw [I.closed j' k h1 this h3]; simp
  have hst := D.st j o ho
  generalize hv : vs j = v at hst htm
  generalize hR : R j = r at hst
  generalize hs' : ss (j + 1) = s' at hst q1 q6
  generalize hf' : frs (j + 1) = f' at hst
  cases hst with
  | skip hw =>
    obtain ⟨k1, k2, k3⟩ := put_rel I.size I.tm o.dst (v := undef) (v' := undef) vr_undef
    refine ⟨ρS, wS, aS.put o.dst undef, ⟨I.inv.congr fun i => ?_, I.le, fun i hi => I.old i fun k h1 h2 => hi k h1 (by simp [h2]), fun t => by rw [← htm]; exact k1 t, k2, k3.trans I.defers, hcl⟩, fun b rest k cs hb hk => .one ?_⟩
    · rw [← hmem]
      have : wm R j = [] := by unfold wm; rw [hR]
      rw [this]; rfl
    · rw [wanted_at hlook] at hw
      have := stepR_op_skip (P := P) (b := b) (a := aS) (k := k) (cs := cs) (w := wS) (ops := ops) (i := j) (rest := rest) (by rw [ho]; exact hw)
      rw [ho] at this
      exact this
  | go hw _ s1 h hl =>
    rw [hR] at q4 q5 q6
    obtain ⟨rr, hk⟩ := opGo_ok D.hcall h (s := ⟨(ss j).heap, (ss j).ctr, [], []⟩) p1.good
    have e1 : nrd (⟨(ss j).heap, (ss j).ctr, [], []⟩ : St) s1 = s1.rd := nrd_of (by simp)
    have e2 : nup (⟨(ss j).heap, (ss j).ctr, [], []⟩ : St) s1 = s1.up := nup_of (by simp)
    have hA : OpndR ρS (frs j).tmps o aS := fun t ht => hlook t (List.mem_append_left _ (List.mem_filterMap.2 ⟨.tmp t, by simpa using ht, rfl⟩))
    have hB : ∀ i ∈ nrd (⟨(ss j).heap, (ss j).ctr, [], []⟩ : St) s1, apF H (acc (wm R) S ops.size) i = (ss j).heap.get i := by
      intro i hi
      -- memory that it looks at
      rw [e1] at hi
      have hi2 : i ∈ (R j).rd := by rw [hR]; exact hi
      show apF H (acc (wm R) S ops.size) i = (ss j).heap.get i
      rw [p1.heap, p2, ap_eq, ← acc_lt _ (fun _ => true) j ops.size (by omega)]
      rw [acc_agree (S := S) (S' := fun k => decide (k < j)) ops.size fun k hk' hd hh => ?_]
      · exact apF_agree (hH i ((D.pre ops.size (Nat.le_refl _)).2.2.1 j hjs i hi2))
      · rcases hun k hk' hd with ⟨h1, h2⟩ | ⟨h1, _, h2⟩
        · exact ((compat_spec (D.compat k j h1 hjs h2)).1 i hi2).1 hh
        · exact ((compat_spec (D.compat j k h1 hk' h2)).2 i hh).2.2 hi2
    have hC : ∀ i, (ss j).ctr ≤ i → i ≤ s1.ctr → ρS i = none := by
      intro i h1 h2
      -- new names
      have h1' : (ss j).ctr ≤ i := h1
      have h2' : i ≤ s1.ctr := h2
      have hs1 : s1.ctr < (ss (j + 1)).ctr := by rw [hs']; exact Nat.lt_succ_self _
      rw [I.old i fun k hk1 hk2 ⟨hc1, hc2⟩ => ?_]
      · exact hfr i (Nat.le_trans (p4 0 (Nat.zero_le _)) h1') (by
          have := (D.pre ops.size (Nat.le_refl _)).2.2.2.1 (j + 1) (by omega)
          omega)
      · have hok : ops[k]? = some ops[k] := Array.getElem?_eq_getElem hk1
        obtain ⟨b1, b2, b3⟩ := hbind k _ hok
        rcases Nat.lt_trichotomy k j with h | h | h
        · have := p4 (k + 1) (by omega)
          omega
        · subst h; rw [hj] at hk2; cases hk2
        · have := (D.pre k (by omega)).2.2.2.1 (j + 1) (by omega)
          omega
    obtain ⟨ρ', w', g, v', hvr, hop⟩ := hk aS w0 ρS (apF H (acc (wm R) S ops.size)) wS hA hB I.inv hC
    rw [e2] at g
    obtain ⟨k1, k2, k3⟩ := put_rel I.size (fun t => (I.tm t).mono g.le) o.dst hvr
    refine ⟨ρ', w', aS.put o.dst v', ⟨(g.inv.congr (H' := apF H (acc (wm R) (fun k => k == j || S k) ops.size)) fun i => ?_), Ren.le_trans I.le g.le, fun i hi => ?_, fun t => by rw [← htm]; exact k1 t, k2, k3.trans I.defers, hcl⟩, fun b rest k cs hb hk => hop b ops j rest k cs hb hk ho ?_⟩
    · rw [← hmem, ap_eq]
      have : wm R j = s1.up := by unfold wm; rw [hR]
      rw [this]
    · have hi' := hi j hjs (by simp)
      rw [hR] at hi'
      rw [g.old i hi']
      exact I.old i fun k h1 h2 => hi k h1 (by simp [h2])
    · rw [← wanted_at hlook]; exact hw

theorem all_listed {listed : Array Bool} (hs : listed.size = ops.size) (he : ∀ j o, ops[j]? = some o → ∀ e ∈ o.after, Region.binds .any e = true → e.on < j) (hr : Region.ready .any ops listed = []) : ∀ j, j < ops.size → listed.getD j false = true := by
  intro j
  induction j using Nat.strongRecOn with
  | ind j ih =>
    intro hj
    cases h : listed.getD j false with
    | true => rfl
    | false =>
      exfalso
      have hm : j ∈ Region.ready .any ops listed := by
        rw [mem_ready]
        refine ⟨?_, ops[j], Array.getElem?_eq_getElem hj, fun e he' hb => ?_⟩
        · have hl : j < listed.size := by rw [hs]; exact hj
          simp [hl] at h ⊢; exact h
        · have := he j _ (Array.getElem?_eq_getElem hj) e he' hb
          exact ih _ this (by omega)
      rw [hr] at hm; cases hm

theorem DI.go {D : DC P call rnd ops frs ss vs R} (hn : (frs 0).n ≤ lim) {w0 : World} {ρ : Ren} {H : G} {a : Act} (hH : ∀ i ∈ nrd (ss 0) (ss ops.size), H i = (ss 0).heap.get i) (hfr : ∀ i, (ss 0).ctr ≤ i → i ≤ (ss ops.size).ctr → ρ i = none) :
    ∀ (fuel t : Nat) (listed : Array Bool) (ρS : Ren) (wS : World) (aS : Act), listed.size = ops.size → listed.toList.count false ≤ fuel → DI D w0 ρ H a (fun k => listed.getD k false) ρS wS aS →
    ∃ ρ' w' a', DI D w0 ρ H a (fun _ => true) ρ' w' a' ∧ OpsRun P rnd ops (Region.linearise.go .any ops fuel t listed []) aS wS a' w' := by
  intro fuel
  have done : ∀ (listed : Array Bool) (ρS : Ren) (wS : World) (aS : Act), (∀ j, j < ops.size → listed.getD j false = true) → DI D w0 ρ H a (fun k => listed.getD k false) ρS wS aS → DI D w0 ρ H a (fun _ => true) ρS wS aS := by
    intro listed ρS wS aS hall I
    refine ⟨I.inv.congr fun i => (acc_agree ops.size fun k hk hd => absurd (hall k hk).symm hd), I.le, fun i hi => I.old i fun k h1 _ => hi k h1 rfl, fun t => ?_, I.size, I.defers, fun _ _ _ _ _ => rfl⟩
    rw [acc_agree (S := fun _ => true) (S' := fun k => listed.getD k false) ops.size fun k hk hd => absurd (hall k hk).symm hd]
    exact I.tm t
  induction fuel with
  | zero =>
    intro t listed ρS wS aS hs hc I
    have hall : ∀ j, j < ops.size → listed.getD j false = true := by
      intro j hj
      cases h : listed.getD j false with
      | true => rfl
      | false =>
        exfalso
        have hl : j < listed.size := by rw [hs]; exact hj
        have hm : false ∈ listed.toList := by
          simp [hl] at h
          rw [← h]; simp
        have := List.count_pos_iff.2 hm
        omega
    refine ⟨ρS, wS, aS, done listed ρS wS aS hall I, fun b k cs _ _ => .one ?_⟩
    rw [Region.linearise.go]
    exact stepR_region_end
  | succ fuel ih =>
    intro t listed ρS wS aS hs hc I
    rw [Region.linearise.go]
    show ∃ ρ' w' a', _ ∧ OpsRun P rnd ops (match (Region.ready .any ops listed)[t % (Region.ready .any ops listed).length]? with
      | some i => Region.linearise.go .any ops fuel (t / (Region.ready .any ops listed).length) (listed.setIfInBounds i true) [i]
      | none => [].reverse) aS wS a' w'
    cases hi : (Region.ready .any ops listed)[t % (Region.ready .any ops listed).length]? with
    | none =>
      have hnil : Region.ready .any ops listed = [] := by
        cases hr : Region.ready .any ops listed with
        | nil => rfl
        | cons x xs =>
          rw [hr] at hi
          have hlt : t % (x :: xs).length < (x :: xs).length := Nat.mod_lt _ (by simp)
          rw [List.getElem?_eq_none_iff] at hi
          omega
      exact ⟨ρS, wS, aS, done listed ρS wS aS (all_listed hs D.edges hnil) I, fun b k cs _ _ => .one stepR_region_end⟩
    | some j =>
      obtain ⟨m1, o, m2, m3⟩ := mem_ready.1 (List.mem_of_getElem? hi)
      have hj : j < ops.size := (Array.getElem?_eq_some_iff.1 m2).1
      have hl : j < listed.size := by rw [hs]; exact hj
      have hjf : listed.getD j false = false := by simp [hl] at m1 ⊢; exact m1
      obtain ⟨ρ1, w1, a1, I1, st1⟩ := DI.step hn hH hfr I m2 hjf m3
      have hS : (fun k => k == j || listed.getD k false) = fun k => (listed.setIfInBounds j true).getD k false := by
        funext k
        by_cases e : k = j
        · subst e; simp [hl]
        · rw [getD_set_ne false (Ne.symm e)]; simp [e]
      rw [hS] at I1
      have hlj : listed[j] = false := by simpa [hl] using hjf
      obtain ⟨ρ2, w2, a2, I2, st2⟩ := ih (t / (Region.ready .any ops listed).length) (listed.setIfInBounds j true) ρ1 w1 a1 (by simpa using hs) (by
        rw [Array.toList_setIfInBounds, List.count_set (by simpa using hl)]
        have hlj' : listed.toList[j]'(by simpa using hl) = false := by simpa using hlj
        rw [hlj']
        rw [if_pos (by rfl), if_neg (by simp)]
        omega) I1
      refine ⟨ρ2, w2, a2, I2, fun b k cs hb hk => ?_⟩
      dsimp only
      rw [linearise_go_acc, List.reverse_singleton, List.singleton_append]
      exact (st1 b _ k cs hb hk).trans (st2 b k cs hb hk)
end

theorem runDraw_ok {P : Program} {call : CallF} (hcall : CallOk P call) {rnd : Bool} {ops : Array Oper} {fr fr' : Fr} {s s' : St} {rs : List Rec} (h : runDraw P call rnd ops ops.toList fr s [] = some (fr', s', rs))
    (he : edgesOk ops = true) (ha : apartOk ops = true) (hd : drawOk ops rs = true) (hg : Good s) :
    Ran s s' ∧ ∀ t a, Run P s s' (fun ρ _ => FR ρ fr a) (fun w ρ' w' => ∃ a', FR ρ' fr' a' ∧ OpsRun P rnd ops (Region.linearise .any ops t) a w a' w') := by
  obtain ⟨frs, ss, vs, R, h1, h2, h3, h4, h5, h6⟩ := draw_data ops.toList fr s [] fr' s' rs h
  have hrs : ∀ j, j < ops.size → rs[j]? = some (R j) := by
    intro j hj
    rw [h5]; simp [hj]
  have D : DC P call rnd ops frs ss vs R := by
    refine ⟨hcall, fun j o ho => h6 j o (by simpa using ho), by rw [h2]; exact hg, fun k j x y hkj hx hy hb => ?_, fun k j hkj hj hb => ?_, fun j o ho e hm hb => ?_⟩
    · have a1 := List.all_eq_true.1 ha (y, j) (by rw [List.mem_zipIdx_iff_getElem?]; simpa using hy)
      have a2 := List.all_eq_true.1 a1 (x, k) (by rw [List.mem_zipIdx_iff_getElem?]; simpa using hx)
      dsimp only at a2
      rw [lt_blt hkj, hb] at a2
      simpa using a2
    · have a1 := List.all_eq_true.1 hd (R j, j) (by rw [List.mem_zipIdx_iff_getElem?]; exact hrs j hj)
      rw [Bool.or_eq_true] at a1
      rcases a1 with a1 | a1
      · dsimp only at a1
        unfold quiet at a1
        unfold compat
        split at a1
        · rename_i e1 e2; rw [e1, e2]; rfl
        · cases a1
      · have a2 := List.all_eq_true.1 a1 (R k, k) (by rw [List.mem_zipIdx_iff_getElem?]; exact hrs k (by omega))
        dsimp only at a2
        rw [lt_blt hkj, hb] at a2
        simpa using a2
    · have a1 := List.all_eq_true.1 he (o, j) (by rw [List.mem_zipIdx_iff_getElem?]; simpa using ho)
      have a2 := List.all_eq_true.1 a1 e (by simpa using hm)
      dsimp only at a2
      rw [hb] at a2
      exact blt_lt (by simpa using a2)
  have hlen : ops.toList.length = ops.size := by simp
  rw [hlen] at h3 h4
  have hpre := D.pre ops.size (Nat.le_refl _)
  rw [h2, h4] at hpre
  refine ⟨hpre.1, fun t a w0 ρ H w hA hag hI hfr => ?_⟩
  have hA0 : FR ρ (frs 0) a := by rw [h1]; exact hA
  obtain ⟨ρ', w', a', I, st⟩ := DI.go (D := D) (w0 := w0) (ρ := ρ) (H := H) (a := a) hA0.n (by rw [h2, h4]; exact hag) (by rw [h2, h4]; exact hfr) ops.size t (Array.replicate ops.size false) ρ w a (by simp) (by simp) (by
    have hS : (fun k => (Array.replicate ops.size false).getD k false) = fun _ => false := by
      funext k
      simp only [Array.getD_eq_getD_getElem?, Array.getElem?_replicate]
      split <;> rfl
    have hnil : ∀ {β : Type} (W : Nat → List (Nat × β)) n, acc W (fun _ => false) n = [] := by
      intro β W n
      induction n with
      | zero => rfl
      | succ n ih => unfold acc; rw [if_neg (by simp)]; exact ih
    rw [hS]
    exact ⟨by rw [hnil]; exact hI, Ren.le_refl _, fun _ _ => rfl, fun t => by rw [hnil]; exact hA0.tmps.2 t, hA0.tmps.1, rfl, fun _ _ _ h => by cases h⟩)
  refine ⟨ρ', w', ⟨I.le, fun i hi => I.old i fun k hk _ hc => hi ?_, I.inv.congr fun i => by rw [ap_eq, hpre.2.1]⟩, a', ⟨?_, ?_, ?_⟩, st⟩
  · obtain ⟨q1, q2, q3, q4, q5, q6⟩ := D.one (Array.getElem?_eq_getElem hk)
    have p1 := (D.pre k (by omega)).2.2.2.1 0 (Nat.zero_le _)
    have p2 := (D.pre ops.size (Nat.le_refl _)).2.2.2.1 (k + 1) (by omega)
    rw [h2] at p1
    rw [h4] at p2
    omega
  · rw [← h3]
    refine ⟨I.size.trans hpre.2.2.2.2.1.symm, fun t => ?_⟩
    have := I.tm t
    rw [← hpre.2.2.2.2.2.2 hA0.n] at this
    exact this
  · rw [← h3, hpre.2.2.2.2.1]; exact hA0.n
  · rw [← h3, hpre.2.2.2.2.2.1, I.defers]; exact hA0.defers.mono fun _ _ h => h.mono I.le
end Go.Proofs.YtbnmjdmbdoehlaaGreatDoor.Ev
