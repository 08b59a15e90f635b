/- The evaluator looks at no more of memory than it says. -/
import Derived.Test.YtbnmjdmbdoehlaaGreatDoorEh
namespace Go.Proofs.YtbnmjdmbdoehlaaGreatDoor.Ev
open Go Go.RowKit

section
variable {P : Program} {g H : G}

theorem loadN_agree {i off n : Nat} (h : H i = g i) : loadN H i off n = loadN g i off n := by unfold loadN; rw [h]
theorem storeE_agree {i off : Nat} {cs : List Value} {v : Value} {E : E} (h : storeE g i off cs v = some E) (hag : ∀ j ∈ E.rd, H j = g j) : storeE H i off cs v = some E := by
  unfold storeE at h ⊢
  cases cs with
  | nil => exact h
  | cons a l =>
    dsimp only at h ⊢
    split at h
    · rename_i f el vs hi
      split at h
      · rename_i vs' hs
        cases h
        rw [hag i (by simp), hi]
        try dsimp only
        try rw [hs]
      · cases h
    · cases h

theorem opLoad_agree {t : TypeId} {a : Value} {E : E} (h : opLoad P g t a = some E) (hag : ∀ j ∈ E.rd, H j = g j) : opLoad P H t a = some E := by
  unfold opLoad at h ⊢
  split at h
  · rename_i i off
    try dsimp only
    split at h
    · rename_i hag'
      try rw [hag']
      try dsimp only
      split at h
      · rename_i n hs
        try rw [hs]
        try dsimp only
        split at h
        · rename_i l hl
          cases h
          rw [loadN_agree (hag i (by simp)), hl]
        · cases h
      · cases h
    · rename_i hag'
      try rw [hag']
      try dsimp only
      split at h
      · rename_i v hl
        cases h
        rw [loadN_agree (hag i (by simp)), hl]
      · cases h
    · cases h
  · cases h

theorem opStore_agree {t : TypeId} {a x : Value} {E : E} (h : opStore P g t a x = some E) (hag : ∀ j ∈ E.rd, H j = g j) : opStore P H t a x = some E := by
  unfold opStore at h ⊢
  split at h
  · rename_i i off n hs
    try rw [hs]
    try dsimp only
    cases hb : Nat.beq x.cells.toList.length n && x.cells.toList.all oneCell with
    | false => rw [hb] at h; cases h
    | true => rw [hb] at h; exact storeE_agree h hag
  · cases h

theorem eqV_agree {t : TypeId} {x y : Value} {b : Bool} {rd : List Nat} (h : eqV P g t x y = some (b, rd)) (hag : ∀ j ∈ rd, H j = g j) : eqV P H t x y = some (b, rd) := by
  unfold eqV at h ⊢
  split at h
  · rename_i i o j q
    try dsimp only
    split at h
    · rename_i el hu
      try rw [hu]
      try dsimp only
      split at h
      · rename_i n hs
        try rw [hs]
        try dsimp only
        cases hij : Nat.beq i j with
        | true => rw [hij] at h; exact h
        | false =>
          rw [hij] at h
          dsimp only [cond_false] at h ⊢
          split at h
          · rename_i t1 vs1 t2 vs2 h1 h2
            cases h
            rw [hag i (by simp), hag j (by simp), h1, h2]
          · cases h
      · cases h
    · cases h
  all_goals first | exact h | cases h

theorem opBin_agree {e : Operand → Value} {o : Oper} {op : BinOp} {t : TypeId} {x y : Value} {E : E} (h : opBin P e g o op t x y = some E) (hag : ∀ j ∈ E.rd, H j = g j) : opBin P e H o op t x y = some E := by
  unfold opBin at h ⊢
  cases hp : noAddr x && noAddr y with
  | true => rw [hp] at h; exact h
  | false =>
    rw [hp] at h
    dsimp only [cond_false] at h ⊢
    split at h
    · try dsimp only
      split at h
      · rename_i b rd he
        cases h
        rw [eqV_agree he hag]
      · cases h
    · try dsimp only
      split at h
      · rename_i b rd he
        cases h
        rw [eqV_agree he hag]
      · cases h
    · cases h

theorem opConvert_agree {e : Operand → Value} {o : Oper} {c : Nat} {src dst : TypeId} {x : Value} {E : E} (h : opConvert P e g c o src dst x = some E) (hag : ∀ j ∈ E.rd, H j = g j) : opConvert P e H c o src dst x = some E := by
  unfold opConvert at h ⊢
  split at h
  · rename_i i off len cap
    try dsimp only
    split at h
    · rename_i el hs hd
      try rw [hs, hd]
      try dsimp only
      split at h
      · rename_i he
        try rw [he]
        try dsimp only
        split at h
        · rename_i l hl
          split at h
          · rename_i bs hbs
            cases h
            rw [loadN_agree (hag i (by simp)), hl]
            try dsimp only
            try rw [hbs]
          · cases h
        · cases h
      · cases h
    · rename_i el0 el hs hd
      try rw [hs, hd]
      try dsimp only
      split at h
      · rename_i he
        try rw [he]
        try dsimp only
        cases hsd : Nat.beq src dst with
        | false => rw [hsd] at h; cases h
        | true =>
          rw [hsd] at h
          dsimp only [cond_true] at h ⊢
          split at h
          · rename_i f t vs hb
            cases h
            rw [hag i (by simp), hb]
          · cases h
      · cases h
    · cases h
  · exact h
  · exact h

theorem kindOk_agree {i size cap : Nat} (h : Nat.blt cap big = false → H i = g i) : kindOk P H i size cap = kindOk P g i size cap := by
  unfold kindOk
  cases hb : Nat.blt cap big with
  | true => rfl
  | false => rw [h hb]

theorem opSlice_agree {e : Operand → Value} {o : Oper} {t : TypeId} {x : Value} {lo hi mx : Option Value} {E : E} (h : opSlice P e g o t x lo hi mx = some E) (hag : ∀ j ∈ E.rd, H j = g j) : opSlice P e H o t x lo hi mx = some E := by
  unfold opSlice at h ⊢
  split at h
  · exact h
  · rename_i a len cap
    try dsimp only
    split at h
    · rename_i el hu
      try rw [hu]
      try dsimp only
      split at h
      · rename_i size hs
        try rw [hs]
        try dsimp only
        split at h
        · try dsimp only
          split at h
          · rename_i hh h1
            try rw [h1]
            try dsimp only
            split at h
            · rename_i l h2
              try rw [h2]
              try dsimp only
              split at h
              · rename_i i off
                try dsimp only
                cases hk : kindOk P g i size cap with
                | false => rw [hk] at h; cases h
                | true =>
                  rw [hk] at h
                  cases h
                  have : kindOk P H i size cap = kindOk P g i size cap := kindOk_agree fun hb => hag i (by rw [hb]; simp)
                  rw [this, hk]
                  rfl
              · exact h
              · cases h
            · cases h
          · cases h
        · exact h
      · cases h
    · cases h
  · exact h
  · cases h

theorem entries_agree {x : Value} {es : List MapEntry} {rd : List Nat} (h : entries g x = some (es, rd)) (hag : ∀ j ∈ rd, H j = g j) : entries H x = some (es, rd) := by
  unfold entries at h ⊢
  split at h
  · exact h
  · rename_i r
    split at h
    · rename_i es2 c hr
      cases h
      rw [hag r (by simp), hr]
    · cases h
  · cases h

theorem opLookup_agree {t : TypeId} {x k : Value} {ok : Bool} {E : E} (h : opLookup P g t x k ok = some E) (hag : ∀ j ∈ E.rd, H j = g j) : opLookup P H t x k ok = some E := by
  unfold opLookup at h ⊢
  split at h
  · rename_i kt el hu
    try rw [hu]
    try dsimp only
    split at h
    · rename_i es rd hes
      have hrd : E.rd = rd := by
        split at h
        · split at h
          · cases h; rfl
          · cases h
        · split at h
          · cases h; rfl
          · cases h
        · cases h
      rw [entries_agree hes (by rw [← hrd]; exact hag)]
      exact h
    · cases h
  · cases h

theorem opMapUpdate_agree {t : TypeId} {x k v : Value} {E : E} (h : opMapUpdate P g t x k v = some E) (hag : ∀ j ∈ E.rd, H j = g j) : opMapUpdate P H t x k v = some E := by
  unfold opMapUpdate at h ⊢
  split at h
  · rename_i kt el r hu
    try rw [hu]
    try dsimp only
    split at h
    · rename_i es clock hr
      have hrd : E.rd = [r] := by
        split at h
        · split at h
          · rename_i en _
            cases hs : Instr.sameBits 10000 en.key k with
            | true => rw [hs] at h; cases h; rfl
            | false => rw [hs] at h; cases h
          · cases h
        · cases h; rfl
        · cases h
      rw [hag r (by rw [hrd]; simp), hr]
      exact h
    · cases h
  · cases h
theorem opMapEntry_agree {t : TypeId} {x k : Value} {E : E} (h : opMapEntry P g t x k = some E) (hag : ∀ j ∈ E.rd, H j = g j) : opMapEntry P H t x k = some E := by
  unfold opMapEntry at h ⊢
  split at h
  · rename_i kt el r hu
    try rw [hu]
    try dsimp only
    split at h
    · rename_i es clock hr
      have hrd : E.rd = [r] := by
        split at h
        · split at h
          · rename_i en _
            cases hs : Instr.sameBits 10000 en.key k with
            | true => rw [hs] at h; cases h; rfl
            | false => rw [hs] at h; cases h
          · cases h
        · split at h
          · cases h; rfl
          · cases h
        · cases h
      rw [hag r (by rw [hrd]; simp), hr]
      exact h
    · cases h
  · cases h
theorem opEntryStore_agree {x s v : Value} {E : E} (h : opEntryStore g x s v = some E) (hag : ∀ j ∈ E.rd, H j = g j) : opEntryStore H x s v = some E := by
  unfold opEntryStore at h ⊢
  split at h
  · rename_i r kd born
    split at h
    · rename_i es clock hr
      have hrd : E.rd = [r] := by
        split at h
        · cases h; rfl
        · cases h
      rw [hag r (by rw [hrd]; simp), hr]
      exact h
    · cases h
  · cases h
theorem opRange_agree {t : TypeId} {x : Value} {c : Nat} {E : E} (h : opRange P g c t x = some E) (hag : ∀ j ∈ E.rd, H j = g j) : opRange P H c t x = some E := by
  unfold opRange at h ⊢
  split at h
  · exact h
  · exact h
  · rename_i a e m hu
    split at h
    · rename_i es clock hm
      cases h
      rw [hag m (by simp), hm]
    · cases h
  · cases h
theorem opNext_agree {x : Value} {b : Bool} {E : E} (h : opNext g x b = some E) (hag : ∀ j ∈ E.rd, H j = g j) : opNext H x b = some E := by
  unfold opNext at h ⊢
  split at h
  · rename_i r
    split at h
    · rename_i s pos hr
      have hrd : E.rd = [r] := by
        split at h
        · cases h; rfl
        · cases h; rfl
      rw [hag r (by rw [hrd]; simp), hr]
      exact h
    · rename_i hr
      cases h
      rw [hag r (by simp), hr]
    · rename_i m since seen last hr
      split at h
      · rename_i es clock hm
        cases hgone : (!seen.isEmpty && !es.isEmpty && es.all (fun en => Nat.ble last en.born)) with
        | true => rw [hgone] at h; cases h
        | false =>
          rw [hgone] at h
          dsimp only [cond_false] at h
          have hrd : E.rd = [m, r] := by
            split at h
            · cases h; rfl
            · rename_i en _
              cases hs : Nat.blt en.born since with
              | true => rw [hs] at h; cases h; rfl
              | false => rw [hs] at h; cases h
            · cases h
          rw [hag r (by rw [hrd]; simp), hr]
          dsimp only
          rw [hag m (by rw [hrd]; simp), hm]
          dsimp only
          rw [hgone]
          exact h
      · cases h
    · cases h
  · cases h
theorem opEntry_agree {x : Value} {E : E} (h : opEntry g x = some E) (hag : ∀ j ∈ E.rd, H j = g j) : opEntry H x = some E := by
  unfold opEntry at h ⊢
  split at h
  · rename_i r
    split at h
    · rename_i m since seen stepped hr
      split at h
      · rename_i stamp es clock hl hm
        have hrd : E.rd = [m, r] := by
          cases hs : Nat.beq clock stepped with
          | true =>
            rw [hs] at h
            dsimp only [cond_true] at h
            split at h
            · cases h; rfl
            · cases h
          | false => rw [hs] at h; cases h
        rw [hag r (by rw [hrd]; simp), hr]
        dsimp only
        rw [hag m (by rw [hrd]; simp), hm, hl]
        exact h
      · cases h
    · cases h
  · cases h
theorem opLen_agree {ats : Array TypeId} {x : Value} {E : E} (h : opLen P g ats x = some E) (hag : ∀ j ∈ E.rd, H j = g j) : opLen P H ats x = some E := by
  unfold opLen at h ⊢
  split at h
  · split at h
    · exact h
    · exact h
    · rename_i kt el r hu
      split at h
      · rename_i es cl hr
        cases h
        rw [hag r (by simp), hr]
      · cases h
    · exact h
    · exact h
    · cases h
  · cases h
theorem srcCells_agree {size : Nat} {x : Value} {n : Nat} {cells : List Value} {rd : List Nat} (h : srcCells g size x = some (n, cells, rd)) (hag : ∀ j ∈ rd, H j = g j) : srcCells H size x = some (n, cells, rd) := by
  unfold srcCells at h ⊢
  split at h
  · exact h
  · rename_i i off m cap
    split at h
    · rename_i l hl
      cases h
      rw [loadN_agree (hag i (by simp)), hl]
    · cases h
  · exact h
  · cases h
theorem copySrc_agree {size dl : Nat} {x : Value} {n : Nat} {cells : List Value} {rd : List Nat} (h : copySrc g size dl x = some (n, cells, rd)) (hag : ∀ j ∈ rd, H j = g j) : copySrc H size dl x = some (n, cells, rd) := by
  unfold copySrc at h ⊢
  split at h
  · exact h
  · rename_i i off m cap
    split at h
    · rename_i l hl
      cases h
      rw [loadN_agree (hag i (by simp)), hl]
    · cases h
  · exact h
  · cases h
theorem opAppend_agree {c : Nat} {ats : Array TypeId} {s x : Value} {E : E} (h : opAppend P g c ats s x = some E) (hag : ∀ j ∈ E.rd, H j = g j) : opAppend P H c ats s x = some E := by
  unfold opAppend at h ⊢
  split at h
  · rename_i t u ht hu
    split at h
    · rename_i el hut
      split at h
      · rename_i inf z base len cap hi hz
        try dsimp only
        split at h
        · rename_i n cells rd hsrc
          cases hb : nonInt P u && cells.all oneCell && Nat.beq cells.length (n * inf.size) && Nat.ble ((2 * (len + n) + 1000) * (inf.bytes + 1)) lim && Nat.beq z.cells.size inf.size with
          | false => rw [hb] at h; cases h
          | true =>
            rw [hb] at h
            dsimp only [cond_true] at h
            have sub : ∀ j ∈ rd, j ∈ E.rd := by
              intro j hj
              cases hr2 : Nat.ble (len + n) (capLo cap) with
              | true =>
                rw [hr2] at h
                dsimp only [cond_true] at h
                split at h
                · split at h
                  · cases h; simp [hj]
                  · cases h
                · cases h0 : Nat.beq n 0 with
                  | true => rw [h0] at h; cases h; exact hj
                  | false => rw [h0] at h; cases h
                · cases h
              | false =>
                rw [hr2] at h
                dsimp only [cond_false] at h
                split at h
                · cases h0 : Nat.beq len 0 && Nat.blt cap big with
                  | true => rw [h0] at h; cases h; exact hj
                  | false => rw [h0] at h; cases h
                · split at h
                  · rename_i f t' vs hblk
                    split at h
                    · cases h0 : Nat.blt cap big with
                      | true => rw [h0] at h; cases h; simp [hj]
                      | false =>
                        rw [h0] at h
                        dsimp only [cond_false] at h
                        cases h1 : Nat.beq t' el with
                        | true => rw [h1] at h; cases h; simp [hj]
                        | false => rw [h1] at h; cases h
                    · cases h
                  · cases h
                · cases h
            rw [srcCells_agree hsrc fun j hj => hag j (sub j hj)]
            dsimp only
            rw [hb]
            dsimp only [cond_true]
            cases hr2 : Nat.ble (len + n) (capLo cap) with
            | true =>
              rw [hr2] at h
              dsimp only [cond_true] at h ⊢
              split at h
              · rename_i i off
                split at h
                · rename_i E1 hst
                  cases h
                  rw [storeE_agree hst fun j hj => hag j (by simp [hj])]
                · cases h
              · exact h
              · cases h
            | false =>
              rw [hr2] at h
              dsimp only [cond_false] at h ⊢
              split at h
              · exact h
              · rename_i i off
                split at h
                · rename_i f t' vs hblk
                  have hi : i ∈ E.rd := by
                    split at h
                    · cases h0 : Nat.blt cap big with
                      | true => rw [h0] at h; cases h; simp
                      | false =>
                        rw [h0] at h
                        dsimp only [cond_false] at h
                        cases h1 : Nat.beq t' el with
                        | true => rw [h1] at h; cases h; simp
                        | false => rw [h1] at h; cases h
                    · cases h
                  rw [loadN_agree (hag i hi), hag i hi, hblk]
                  exact h
                · cases h
              · cases h
        · cases h
      · cases h
    · cases h
  · cases h
theorem opCopy_agree {ats : Array TypeId} {d x : Value} {E : E} (h : opCopy P g ats d x = some E) (hag : ∀ j ∈ E.rd, H j = g j) : opCopy P H ats d x = some E := by
  unfold opCopy at h ⊢
  split at h
  · split at h
    · split at h
      · rename_i size base dl cp hs
        try dsimp only
        split at h
        · rename_i m cells rd hsrc
          cases hoc : cells.all oneCell with
          | false => rw [hoc] at h; cases h
          | true =>
            rw [hoc] at h
            dsimp only [cond_true] at h
            split at h
            · cases h
              rw [copySrc_agree hsrc hag]
              dsimp only
              rw [hoc]
              rfl
            · rename_i i off
              split at h
              · rename_i E1 hst
                cases hz : Nat.beq m 0 && !cells.isEmpty with
                | true => rw [hz] at h; cases h
                | false =>
                  rw [hz] at h
                  cases h
                  rw [copySrc_agree hsrc fun j hj => hag j (by simp [hj])]
                  dsimp only
                  rw [hoc]
                  dsimp only [cond_true]
                  rw [storeE_agree hst fun j hj => hag j (by simp [hj])]
                  dsimp only
                  rw [hz]
                  rfl
              · cases h
            · cases h
        · cases h
      · cases h
    · cases h
  · cases h
theorem opClear_agree {ats : Array TypeId} {x : Value} {E : E} (h : opClear P g ats x = some E) (hag : ∀ j ∈ E.rd, H j = g j) : opClear P H ats x = some E := by
  unfold opClear at h ⊢
  split at h
  · split at h
    · exact h
    · exact h
    · rename_i el i off n cp hn hu
      split at h
      · rename_i z hz
        try rw [hz]
        try dsimp only
        cases hoc : (Builtin.zeroCells z.cells n).toList.all oneCell with
        | false => rw [hoc] at h; cases h
        | true =>
          rw [hoc] at h
          dsimp only [cond_true] at h
          try rw [hoc]
          try dsimp only [cond_true]
          exact storeE_agree h hag
      · cases h
    · cases h
  · cases h

theorem opBuiltin_agree {e : Operand → Value} {c : Nat} {o : Oper} {b : Builtin} {ats : Array TypeId} {l : List Value} {E : E} (h : opBuiltin P e g c o b ats l = some E) (hag : ∀ j ∈ E.rd, H j = g j) : opBuiltin P e H c o b ats l = some E := by
  unfold opBuiltin at h ⊢
  split at h
  · exact opLen_agree h hag
  · exact h
  · exact opAppend_agree h hag
  · exact opCopy_agree h hag
  · exact opClear_agree h hag
  · cases h
  · exact h

theorem evOp_agree {T : Tr Value} {o : Oper} {c : Nat} {E : E} (h : evOp P T o g c = some E) (hag : ∀ j ∈ E.rd, H j = g j) : evOp P T o H c = some E := by
  unfold evOp at h ⊢
  split at h
  all_goals first
    | exact h
    | exact opLoad_agree h hag
    | exact opStore_agree h hag
    | exact opBin_agree h hag
    | exact opConvert_agree h hag
    | exact opSlice_agree h hag
    | exact opLookup_agree h hag
    | exact opMapUpdate_agree h hag
    | exact opMapEntry_agree h hag
    | exact opEntryStore_agree h hag
    | exact opRange_agree h hag
    | exact opNext_agree h hag
    | exact opEntry_agree h hag
    | exact opBuiltin_agree h hag
end
end Go.Proofs.YtbnmjdmbdoehlaaGreatDoor.Ev
