/- The evaluator: regions, code, calls. -/
import Derived.Test.YtbnmjdmbdoehlaaGreatDoorEa
import Derived.Orders
import Derived.CheckFast
namespace Go.Proofs.YtbnmjdmbdoehlaaGreatDoor.Ev
open Go

/-- A frame: its slots, how many there are, what is deferred. -/
structure Fr where
  tmps : Tr Value
  n : Nat
  defers : List Deferred

def Fr.put (fr : Fr) (d : Option Tmp) (v : Value) : Fr :=
  match d with
  | some d => bif Nat.blt d fr.n then { fr with tmps := Tr.set (some v) 64 fr.tmps d } else fr
  | none => fr

abbrev CallF := Value → List Value → St → Option (Value × St)

def yieldT (ops : Array Oper) (T : Tr Value) (j : Nat) : Option Bool :=
  match (ops[j]?).bind (·.dst) with
  | some d => match T.get d with
    | some (.bool b) => some b
    | _ => none
  | none => none

def okOps (o : Oper) : Bool := o.op.operands.toList.all okOperand

def goOp (P : Program) (T : Tr Value) (o : Oper) (s : St) : Option (Value × St) :=
  match evOp P T o s.heap.get s.ctr with
  | some E => bif Nat.ble (Nat.add s.ctr E.n) lim && E.rd.all (fun i => Nat.blt i (Nat.add s.ctr E.n)) && E.up.all (fun p => Nat.blt p.1 (Nat.add s.ctr E.n)) then some (E.v, s.eff E.rd E.up E.n) else none
  | none => none
/-- One operation, a call too. -/
def opGo (P : Program) (call : CallF) (rnd : Bool) (T : Tr Value) (o : Oper) (s : St) : Option (Value × St) :=
  bif okOps o then
    match o.op with
    | .call { callee := .value f, args, argTypes := _ } => call (ev T f) (args.toList.map (ev T)) s
    | .call { callee := .builtin .recover, args := _, argTypes := _ } => bif rnd then none else some (.nilIface, s)
    | _ => goOp P T o s
  else none

def runOps (P : Program) (call : CallF) (rnd : Bool) (ops : Array Oper) : List Oper → Fr → St → Option (Fr × St)
  | [], fr, s => some (fr, s)
  | o :: rest, fr, s =>
    bif Region.wanted o (yieldT ops fr.tmps) then
      match o.op with
      | .defer { callee := .value f, args, argTypes := _ } =>
        bif rnd || !okOps o then none else
        match ev fr.tmps f with
        | .func (.func g) first captured => runOps P call rnd ops rest { fr.put o.dst undef with defers := { target := .fn (.func g) captured, args := first ++ args.map (ev fr.tmps) } :: fr.defers } s
        | _ => none
      | _ => match opGo P call rnd fr.tmps o s with
        | some (v, s) => runOps P call rnd ops rest (fr.put o.dst v) s
        | none => none
    else runOps P call rnd ops rest (fr.put o.dst undef) s

/-- What one operation of a region whose order is open has done. -/
structure Rec where
  c : Nat
  c' : Nat
  rd : List Nat
  up : Up
def hitUp (r : Rec) (i : Nat) : Bool := (Nat.ble r.c i && Nat.blt i r.c') || r.up.any (fun p => Nat.beq p.1 i)
/-- Two that may come in either order: neither writes what the other looks at or writes. -/
def compat (rk rj : Rec) : Bool := rj.rd.all (fun i => !hitUp rk i) && rj.up.all (fun p => !hitUp rk p.1 && !rk.rd.any (fun i => Nat.beq i p.1))

def runDraw (P : Program) (call : CallF) (rnd : Bool) (ops : Array Oper) : List Oper → Fr → St → List Rec → Option (Fr × St × List Rec)
  | [], fr, s, rs => some (fr, s, rs.reverse)
  | o :: rest, fr, s, rs =>
    bif Region.wanted o (yieldT ops fr.tmps) then
      match opGo P call rnd fr.tmps o ⟨s.heap, s.ctr, [], []⟩ with
      | some (v, s1) => bif !Nat.blt s1.ctr lim then none else runDraw P call rnd ops rest (fr.put o.dst v) ⟨s1.heap, Nat.succ s1.ctr, s1.rd ++ s.rd, s1.up ++ s.up⟩ (⟨s.ctr, s1.ctr, s1.rd, s1.up⟩ :: rs)
      | none => none
    else runDraw P call rnd ops rest (fr.put o.dst undef) s (⟨s.ctr, s.ctr, [], []⟩ :: rs)

/-- Must operation k come before operation j? -/
def bef (ops : Array Oper) (k j : Nat) : Bool := ((Go.CheckFast.beforeF ops).getD j 0).testBit k
def edgesOk (ops : Array Oper) : Bool := ops.toList.zipIdx.all fun p => p.1.after.toList.all fun e => !Region.binds .any e || Nat.blt e.on p.2
def apartOk (ops : Array Oper) : Bool := ops.toList.zipIdx.all fun y => ops.toList.zipIdx.all fun x => !Nat.blt x.2 y.2 || Oper.apart ops x.1 y.1 || bef ops x.2 y.2
def quiet (r : Rec) : Bool := match r.rd, r.up with | [], [] => true | _, _ => false
def drawOk (ops : Array Oper) (rs : List Rec) : Bool := rs.zipIdx.all fun y => quiet y.1 || rs.zipIdx.all fun x => !Nat.blt x.2 y.2 || compat x.1 y.1 || bef ops x.2 y.2

inductive X where
  | nrm
  | ret
  | exit (id : Nat)

def loopN (f : Fr → St → Option (X × Fr × St)) : Nat → Fr → St → Option (X × Fr × St)
  | 0, _, _ => none
  | n + 1, fr, s => match f fr s with
    | some (.nrm, fr, s) => loopN f n fr s
    | r => r

def runCode (P : Program) (call : CallF) (rnd : Bool) : Code → Fr → St → Option (X × Fr × St)
  | .skip, fr, s => some (.nrm, fr, s)
  | .region _ ops draw, fr, s =>
    bif draw then
      bif edgesOk ops && apartOk ops then
        match runDraw P call rnd ops ops.toList fr s [] with
        | some (fr, s, rs) => bif drawOk ops rs then some (.nrm, fr, s) else none
        | none => none
      else none
    else match runOps P call rnd ops ops.toList fr s with
      | some (fr, s) => some (.nrm, fr, s)
      | none => none
  | .seq a b, fr, s => match runCode P call rnd a fr s with
    | some (.nrm, fr, s) => runCode P call rnd b fr s
    | r => r
  | .cond c a b, fr, s => bif okOperand c then
      match ev fr.tmps c with
      | .bool d => bif d then runCode P call rnd a fr s else runCode P call rnd b fr s
      | _ => none
    else none
  | .block id body, fr, s => match runCode P call rnd body fr s with
    | some (.exit i, fr, s) => bif Nat.beq i id then some (.nrm, fr, s) else some (.exit i, fr, s)
    | r => r
  | .loop body, fr, s => loopN (runCode P call rnd body) 100000 fr s
  | .exit id, fr, s => some (.exit id, fr, s)
  | .ret, fr, s => some (.ret, fr, s)
  | .rangeFunc f params assign body, fr, s =>
    bif rnd || !okOperand f || !Nat.ble (s.ctr + 2) lim then none else
    match call (ev fr.tmps f) [.func (.yield (s.ctr + 1)) #[] #[]] (s.eff [] [(s.ctr + 1, some (.loop .ready none fr.tmps fr.n params assign body s.ctr)), (s.ctr, some (.defd false))] 2) with
    | some (_, s2) => match s2.heap.get (s.ctr + 1) with
      | some (.loop st pend T n ps as bd d) => match st with
        | .busy => none
        | _ => match pend with
          | none => some (.nrm, { fr with defers := { target := .collected s.ctr, args := #[] } :: fr.defers }, s2.eff [s.ctr + 1] [(s.ctr + 1, some (.loop .exhausted none T n ps as bd d))] 0)
          | some .ret => some (.ret, { fr with defers := { target := .collected s.ctr, args := #[] } :: fr.defers }, s2.eff [s.ctr + 1] [(s.ctr + 1, some (.loop .exhausted (some .ret) T n ps as bd d))] 0)
          | some (.exit i) => some (.exit i, { fr with defers := { target := .collected s.ctr, args := #[] } :: fr.defers }, s2.eff [s.ctr + 1] [(s.ctr + 1, some (.loop .exhausted (some (.exit i)) T n ps as bd d))] 0)
          | _ => none
      | _ => none
    | none => none
  | _, _, _ => none

def argsTr : Nat → List Value → Tr Value → Tr Value
  | _, [], t => t
  | i, v :: r, t => argsTr (i + 1) r (Tr.set (some v) 64 t i)
def foldTr (n : Nat) : List (Tmp × Value) → Tr Value → Tr Value
  | [], t => t
  | (i, v) :: r, t => foldTr n r (bif Nat.blt i n then Tr.set (some v) 64 t i else t)

def resV (P : Program) (T : Tr Value) (g : G) : List ResultVar → Option (List Value × List Nat)
  | [] => some ([], [])
  | .tmp i :: r => match resV P T g r with
    | some (vs, rd) => some ((match T.get i with | some v => v | none => undef) :: vs, rd)
    | none => none
  | .cell a ty :: r => match T.get a with
    | some v => match opLoad P g ty v with
      | some E => match resV P T g r with
        | some (vs, rd) => some (E.v :: vs, E.rd ++ rd)
        | none => none
      | none => none
    | none => none

def hasBody (P : Program) (f : FuncId) : Bool := match P.funcs[f]? with | some fn => fn.body.isSome | none => false

def runDefers (P : Program) (call : CallF) : List Deferred → St → Option St
  | [], s => some s
  | d :: ds, s => match d.target with
    | .collected b => match s.heap.get b with
      | some (.defd false) => runDefers P call ds (s.eff [b] [(b, some (.defd true))] 0)
      | _ => none
    | .fn (.func g) captured => bif hasBody P g then match call (.func (.func g) #[] captured) d.args.toList s with
        | some (_, s) => runDefers P call ds s
        | none => none
      else none
    | _ => none

def oneOf : List Value → Value
  | [v] => v
  | vs => .tuple vs.toArray

/-- Functions without a body that look at memory. -/
inductive Prim where
  | mapsClone
def primOp (g : G) (c : Nat) (p : Prim) (args : List Value) : Option E :=
  match p, args with
  | .mapsClone, [.iface t (.map (some r))] => match g r with
    | some (.map es clock) => some ⟨.iface t (.map (some c)), [r], [(c, some (.map es clock))], 1⟩
    | _ => none
  | _, _ => none
def goPrim (p : Prim) (args : List Value) (s : St) : Option (Value × St) :=
  match primOp s.heap.get s.ctr p args with
  | some E => bif Nat.ble (Nat.add s.ctr E.n) lim && E.rd.all (fun i => Nat.blt i (Nat.add s.ctr E.n)) && E.up.all (fun p => Nat.blt p.1 (Nat.add s.ctr E.n)) then some (E.v, s.eff E.rd E.up E.n) else none
  | none => none
abbrev Prims := List (Nat × Prim)
def primOf : Prims → Nat → Option Prim
  | [], _ => none
  | (i, p) :: r, f => bif Nat.beq i f then some p else primOf r f

/-- A call of a function value, with so much fuel. -/
def callN (P : Program) (pr : Prims) : Nat → CallF
  | 0, _, _, _ => none
  | n + 1, fv, args, s => match fv with
    | .func (.func f) first captured =>
      match P.funcs[f]? with
      | some fn => match fn.body with
        | some c =>
          bif Nat.ble fn.ntmps lim && Nat.ble (first.toList ++ args ++ captured.toList).length lim then
            match runCode P (callN P pr n) false c ⟨argsTr 0 (first.toList ++ args ++ captured.toList) .lf, Nat.max fn.ntmps (first.toList ++ args ++ captured.toList).length, []⟩ s with
            | some (.exit _, _, _) => none
            | some (_, fr, s) => match runDefers P (callN P pr n) fr.defers s with
              | some s => match resV P fr.tmps s.heap.get fn.results.toList with
                | some (vs, rd) => bif rd.all (fun i => Nat.blt i s.ctr) then some (oneOf vs, s.eff rd [] 0) else none
                | none => none
              | none => none
            | none => none
          else none
        | none => match primOf pr f with
          | some p => goPrim p (first.toList ++ args ++ captured.toList) s
          | none => bif noAddrL (first.toList ++ args ++ captured.toList) then
            match semPlain P (callFunc f (first.toList ++ args ++ captured.toList).toArray) with
            | some (.value v) => bif noAddr v then some (v, s) else none
            | _ => none
          else none
      | none => none
    | .func (.yield l) first captured => match first.toList ++ captured.toList with
      | [] => match s.heap.get l with
        | some (.loop .ready pend T m params assign body d) =>
          bif Nat.beq args.length params.size && Nat.ble m lim then
            match runCode P (callN P pr n) true assign ⟨foldTr m (params.toList.zip args) T, m, []⟩ (s.eff [l] [] 0) with
            | some (.nrm, fr, s1) => match s1.heap.get l with
              | some (.loop .ready pend2 T2 m2 params2 assign2 body2 d2) =>
                match runCode P (callN P pr n) true body fr (s1.eff [l] [(l, some (.loop .busy pend2 T2 m2 params2 assign2 body2 d2))] 0) with
                | some (x, _, s3) => match s3.heap.get l with
                  | some (.loop _ _ T3 m3 params3 assign3 body3 d3) => match x with
                    | .nrm => some (.bool true, s3.eff [l] [(l, some (.loop .ready none T3 m3 params3 assign3 body3 d3))] 0)
                    | .ret => some (.bool false, s3.eff [l] [(l, some (.loop .done (some .ret) T3 m3 params3 assign3 body3 d3))] 0)
                    | .exit i => some (.bool false, s3.eff [l] [(l, some (.loop .done (some (.exit i)) T3 m3 params3 assign3 body3 d3))] 0)
                  | _ => none
                | none => none
              | _ => none
            | _ => none
          else none
        | _ => none
      | _ => none
    | _ => none

def isTrue : Option (Value × St) → Bool
  | some (.bool true, _) => true
  | _ => false
end Go.Proofs.YtbnmjdmbdoehlaaGreatDoor.Ev
