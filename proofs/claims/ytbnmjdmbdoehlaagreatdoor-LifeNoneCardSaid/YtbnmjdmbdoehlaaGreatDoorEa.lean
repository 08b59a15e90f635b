/- An evaluator of runs over abstract memory: its definitions. Blocks have names; a block's size, where an append has made it, is left open. -/
import Derived.AtR
import Derived.RangeFuncLeaves
import Derived.RangeFuncRecord
import Derived.Below
import Derived.KernelRfl
namespace Go.Proofs.YtbnmjdmbdoehlaaGreatDoor.Ev
open Go

/-- A table by numbers. -/
inductive Tr (α : Type) where
  | lf
  | nd (v : Option α) (l r : Tr α)
namespace Tr
variable {α : Type}
def get : Tr α → Nat → Option α
  | .lf, _ => none
  | .nd v l r, i => bif Nat.beq i 0 then v else bif Nat.beq (Nat.mod i 2) 1 then l.get (Nat.div i 2) else r.get (Nat.sub (Nat.div i 2) 1)
def set (x : Option α) : Nat → Tr α → Nat → Tr α
  | 0, t, _ => t
  | d + 1, .lf, i => bif Nat.beq i 0 then .nd x .lf .lf else bif Nat.beq (Nat.mod i 2) 1 then .nd none (set x d .lf (Nat.div i 2)) .lf else .nd none .lf (set x d .lf (Nat.sub (Nat.div i 2) 1))
  | d + 1, .nd v l r, i => bif Nat.beq i 0 then .nd x l r else bif Nat.beq (Nat.mod i 2) 1 then .nd v (set x d l (Nat.div i 2)) r else .nd v l (set x d r (Nat.sub (Nat.div i 2) 1))
end Tr

/-- What a block holds: cells (just these and not frozen, or these first), a map's entries, an iterator, the record of a range over a function. -/
inductive AO where
  | cells (fix : Bool) (e : TypeId) (vs : List Value)
  | map (es : List MapEntry) (clock : Nat)
  | striter (s : ByteArray) (pos : Nat)
  | mapiter (m : Option Nat) (since : Nat) (seen : List Nat) (last : Nat)
  | loop (state : LoopState) (pend : Option Code) (tmps : Tr Value) (ntmps : Nat) (params : Array Tmp) (assign body : Code) (defers : Nat)
  | defd (taken : Bool)

abbrev G := Nat → Option AO
abbrev Up := List (Nat × Option AO)

/-- What an operation does: its value; the blocks that it looked at; what it wrote, the last first; how many blocks are new. -/
structure E where
  v : Value
  rd : List Nat
  up : Up
  n : Nat

def lim : Nat := 1099511627776
def big : Nat := 4611686018427387904
/-- A capacity is open from 'big' on: at least what is above it. -/
def capLo (c : Nat) : Nat := bif Nat.ble big c then Nat.sub c big else c

structure St where
  heap : Tr AO
  ctr : Nat
  rd : List Nat
  up : Up

def apTr (t : Tr AO) : Up → Tr AO
  | [] => t
  | (i, o) :: r => Tr.set o 64 (apTr t r) i
def St.eff (s : St) (rd : List Nat) (up : Up) (n : Nat) : St := ⟨apTr s.heap up, Nat.add s.ctr n, rd ++ s.rd, up ++ s.up⟩

def ptr (i o : Nat) : Value := .pointer (some ⟨i, o, none⟩)

def ev (t : Tr Value) : Operand → Value
  | .tmp i => match t.get i with | some v => v | none => undef
  | .const v => v
  | .global g => .pointer (some ⟨g, 0, none⟩)
  | .func f => .func (.func f) #[] #[]

mutual
/-- Is there no address in a value? -/
def noAddr : Value → Bool
  | .pointer (some _) | .slice (some _) _ _ | .map (some _) | .chan _ | .func .. => false
  | .iface _ v => noAddr v
  | .agg cs => noAddrL cs.toList
  | .tuple cs => noAddrL cs.toList
  | _ => true
def noAddrL : List Value → Bool
  | [] => true
  | v :: r => noAddr v && noAddrL r
end

/-- What an operation that asks nothing of memory comes to. -/
def semPlain {α : Type} (P : Program) : Sem α → Option α
  | .pure a => some a
  | .program k => semPlain P (k P)
  | .mark _ k => semPlain P k
  | _ => none

def okOperand : Operand → Bool
  | .global _ => false
  | .const v => noAddr v
  | _ => true

def pureE (v : Value) : Option E := some ⟨v, [], [], 0⟩
def newE (c : Nat) (v : Value) (o : AO) : Option E := some ⟨v, [], [(c, some o)], 1⟩

def plainOp (P : Program) (e : Operand → Value) (o : Oper) : Option E :=
  bif o.op.operands.toList.all (fun x => noAddr (e x)) then
    match semPlain P (execOp e o) with
    | some (.value v) => bif noAddr v then pureE v else none
    | _ => none
  else none

def zeroOf (P : Program) (t : TypeId) : Option Value :=
  match P.info? t with
  | some i => match i.zero with
    | some z => bif noAddr z then some z else none
    | none => none
  | none => none
def sizeT (P : Program) (t : TypeId) : Option Nat := match P.info? t with | some i => some i.size | none => none

abbrev oneCell : Value → Bool := Value.oneCell'

def aggT (P : Program) (t : TypeId) : Option Bool :=
  match P.underlying t with
  | some (.struct _) => some true
  | some (.array _ _) => some true
  | some _ => some false
  | none => none
def partV (P : Program) (t : TypeId) (cs : Array Value) (off : Nat) : Option Value :=
  match aggT P t with
  | some true => match sizeT P t with
    | some n => some (.agg (cs.extract off (off + n)))
    | none => none
  | some false => cs[off]?
  | none => none

def loadN (g : G) (i off n : Nat) : Option (List Value) :=
  match g i with
  | some (.cells _ _ vs) => bif Nat.beq ((vs.drop off).take n).length n then some ((vs.drop off).take n) else none
  | _ => none
def setAt : List Value → Nat → List Value → Option (List Value)
  | vs, 0, [] => some vs
  | _ :: vs, 0, x :: xs => match setAt vs 0 xs with | some r => some (x :: r) | none => none
  | v :: vs, n + 1, xs => match setAt vs n xs with | some r => some (v :: r) | none => none
  | [], _, _ => none
/-- These cells are written. -/
def storeE (g : G) (i off : Nat) (cs : List Value) (v : Value) : Option E :=
  match cs with
  | [] => pureE v
  | _ => match g i with
    | some (.cells f el vs) => match setAt vs off cs with
      | some vs' => some ⟨v, [i], [(i, some (.cells f el vs'))], 0⟩
      | none => none
    | _ => none

def bytesOf : List Value → Option (List UInt8)
  | [] => some []
  | .int .u8 n :: r => match bytesOf r with | some l => some (UInt8.ofNat n.toNat :: l) | none => none
  | _ => none

def opAlloc (P : Program) (c : Nat) (el : TypeId) : Option E :=
  match zeroOf P el with
  | some z => newE c (ptr c 0) (.cells true el z.cells.toList)
  | none => none

def opBox (P : Program) (c : Nat) (el : TypeId) (v : Value) : Option E :=
  match sizeT P el with
  | some _ => newE c (ptr c 0) (.cells true el v.cells.toList)
  | none => none

def places (P : Program) (fs : Array Field) : Sem (Array (Nat × Nat)) := fs.mapM fun f => do pure (f.offset, ← sizeOf f.type)
def opBuild (P : Program) (t : TypeId) (parts : List (Nat × Value)) : Option E :=
  match zeroOf P t, P.underlying t with
  | some z, some (.struct fs) => match semPlain P (places P fs) with
    | some pl => match Instr.fill (pl[·]?) z.cells parts with
      | some cs => pureE (.agg cs)
      | none => none
    | none => none
  | some z, some (.array _ el) => match sizeT P el with
    | some size => match Instr.fill (fun i => some (i * size, size)) z.cells parts with
      | some cs => pureE (.agg cs)
      | none => none
    | none => none
  | _, _ => none
def opBuildSlice (P : Program) (c : Nat) (t : TypeId) (len : Nat) (parts : List (Nat × Value)) : Option E :=
  match P.underlying t with
  | some (.slice el) => match sizeT P el, zeroOf P el with
    | some size, some z =>
      bif Nat.ble (len * size) 65536 && Nat.blt len lim then
        match Instr.fill (fun i => some (i * size, size)) ((Array.range (len * size)).map ((if len * size = 0 then #[] else z.cells)[· % (if len * size = 0 then #[] else z.cells).size]!)) parts with
        | some cs => newE c (.slice (some ⟨c, 0, none⟩) len len) (.cells true el cs.toList)
        | none => none
      else none
    | _, _ => none
  | _ => none

def opLoad (P : Program) (g : G) (t : TypeId) (a : Value) : Option E :=
  match a with
  | .pointer (some ⟨i, off, none⟩) =>
    match aggT P t with
    | some true => match sizeT P t with
      | some n => match loadN g i off n with
        | some l => some ⟨.agg l.toArray, [i], [], 0⟩
        | none => none
      | none => none
    | some false => match loadN g i off 1 with
      | some [v] => some ⟨v, [i], [], 0⟩
      | _ => none
    | none => none
  | _ => none
def opStore (P : Program) (g : G) (t : TypeId) (a x : Value) : Option E :=
  match a, sizeT P t with
  | .pointer (some ⟨i, off, none⟩), some n => bif Nat.beq x.cells.toList.length n && x.cells.toList.all oneCell then storeE g i off x.cells.toList undef else none
  | _, _ => none
def opNilCheck (x : Value) : Option E :=
  match x with
  | .pointer none | .nilIface | .nilFunc => none
  | .func (.method _) _ _ => none
  | v => pureE v

/-- Are two values of which one has an address the same? -/
def eqV (P : Program) (g : G) (t : TypeId) : Value → Value → Option (Bool × List Nat)
  | .pointer (some ⟨i, o, none⟩), .pointer (some ⟨j, q, none⟩) => match P.underlying t with
    | some (.pointer el) => match sizeT P el with
      | some (n + 1) => bif Nat.beq i j then some (Nat.beq o q, []) else match g i, g j with
        | some (.cells true _ _), some (.cells true _ _) => some (false, [i, j])
        | _, _ => none
      | _ => none
    | _ => none
  | .pointer (some _), .pointer none => match P.underlying t with | some (.pointer _) => some (false, []) | _ => none
  | .pointer none, .pointer (some _) => match P.underlying t with | some (.pointer _) => some (false, []) | _ => none
  | .slice (some _) _ _, .slice none _ _ => match P.underlying t with | some (.slice _) => some (false, []) | _ => none
  | .map (some _), .map none => match P.underlying t with | some (.map _ _) => some (false, []) | _ => none
  | .func .., .nilFunc => match P.underlying t with | some (.func ..) => some (false, []) | _ => none
  | .iface .., .nilIface => match P.underlying t with | some (.interface _) => some (false, []) | _ => none
  | _, _ => none
def opBin (P : Program) (e : Operand → Value) (g : G) (o : Oper) (op : BinOp) (t : TypeId) (x y : Value) : Option E :=
  bif noAddr x && noAddr y then plainOp P e o else
  match op with
  | .eql => match eqV P g t x y with | some (b, rd) => some ⟨.bool b, rd, [], 0⟩ | none => none
  | .neq => match eqV P g t x y with | some (b, rd) => some ⟨.bool (!b), rd, [], 0⟩ | none => none
  | _ => none

def opConvert (P : Program) (e : Operand → Value) (g : G) (c : Nat) (o : Oper) (src dst : TypeId) (x : Value) : Option E :=
  match x with
  | .slice (some ⟨i, off, none⟩) len cap =>
    match P.underlying src, P.underlying dst with
    | some (.slice el), some .string => match P.underlying el with
      | some (.int .u8) => match loadN g i off len with
        | some l => match bytesOf l with
          | some bs => some ⟨.string ⟨bs.toArray⟩, [i], [], 0⟩
          | none => none
        | none => none
      | _ => none
    | some (.slice _), some (.slice el) => match P.underlying el with
      | some (.int .u8) => bif Nat.beq src dst then match g i with
          | some (.cells _ t vs) => some ⟨.slice (some ⟨i, off, none⟩) len cap, [i], [(i, some (.cells false t vs))], 0⟩
          | _ => none
        else none
      | _ => none
    | _, _ => none
  | .string b => match P.underlying src, P.underlying dst with
    | some .string, some (.slice el) => match P.underlying el, sizeT P el with
      | some (.int .u8), some 1 => bif Nat.blt b.size lim then newE c (.slice (some ⟨c, 0, none⟩) b.size (b.size + big)) (.cells false el (b.data.toList.map fun c => .int .u8 c.toNat)) else none
      | _, _ => none
    | _, _ => plainOp P e o
  | _ => plainOp P e o

def opMakeIface (P : Program) (t : TypeId) (x : Value) : Option E :=
  match P.underlying t with
  | some (.interface _) => none
  | some _ => pureE (.iface t x)
  | none => none
def opMakeFunc (fn : Fn) (first captured : Array Value) : Option E :=
  match fn with
  | .func f => pureE (.func (.func f) first captured)
  | _ => none
def opMakeMap (P : Program) (c : Nat) (t : TypeId) (r : Option Value) : Option E :=
  match r with
  | none => newE c (.map (some c)) (.map [] 0)
  | some (.int _ _) => match P.underlying t with
    | some (.map _ _) => newE c (.map (some c)) (.map [] 0)
    | _ => none
  | _ => none
def opMakeSlice (P : Program) (c : Nat) (t : TypeId) (l k : Value) : Option E :=
  match P.underlying t, l, k with
  | some (.slice el), .int _ l, .int _ k => match P.info? el, zeroOf P el with
    | some inf, some z =>
      if 0 ≤ l ∧ l ≤ k ∧ k < 1048576 ∧ inf.bytes < 65536 ∧ inf.size = z.cells.size then
        newE c (.slice (some ⟨c, 0, none⟩) l.toNat k.toNat) (.cells true el ((Array.range (k.toNat * inf.size)).map ((if k.toNat * inf.size = 0 then #[] else z.cells)[· % (if k.toNat * inf.size = 0 then #[] else z.cells).size]!)).toList)
      else none
    | _, _ => none
  | _, _, _ => none

/-- A bound of a slice: not above y. -/
def bound (x : Value) (y : Nat) : Option Nat :=
  match x with
  | .int _ i => if 0 ≤ i ∧ i ≤ (y : Int) then some i.toNat else none
  | _ => none
def bound0 (d : Nat) (x : Option Value) (y : Nat) : Option Nat :=
  match x with
  | some v => bound v y
  | none => if d ≤ y then some d else none
/-- Where a slice's elements are of the block's own kind. -/
def kindOk (P : Program) (g : G) (i size cap : Nat) : Bool :=
  bif Nat.blt cap big then true else match g i with
  | some (.cells _ e _) => match sizeT P e with | some n => Nat.beq n size | none => false
  | _ => false
def opSlice (P : Program) (e : Operand → Value) (g : G) (o : Oper) (t : TypeId) (x : Value) (lo hi mx : Option Value) : Option E :=
  match x with
  | .pointer (some ⟨i, off, none⟩) => match P.underlying t with
    | some (.array n el) => match sizeT P el, mx with
      | some size, none => match bound0 n hi n with
        | some h => match bound0 0 lo h with
          | some l => bif Nat.blt n big then pureE (.slice (some ⟨i, (if n = l then off else off + l * size), none⟩) (h - l) (n - l)) else none
          | none => none
        | none => none
      | _, _ => none
    | _ => none
  | .slice a len cap => match P.underlying t with
    | some (.slice el) => match sizeT P el with
      | some size => match mx with
        | none => match bound0 len hi (capLo cap) with
          | some h => match bound0 0 lo h with
            | some l => match a with
              | some ⟨i, off, none⟩ => bif kindOk P g i size cap then some ⟨.slice (some ⟨i, (if cap = l then off else off + l * size), none⟩) (h - l) (cap - l), (bif Nat.blt cap big then [] else [i]), [], 0⟩ else none
              | none => pureE (.slice none (h - l) (cap - l))
              | _ => none
            | none => none
          | none => none
        | some mx => match bound mx (capLo cap) with
          | some m => match hi with
            | some hi => match bound hi m with
              | some h => match bound0 0 lo h with
                | some l => match a with
                  | some ⟨i, off, none⟩ => bif Nat.blt m big then pureE (.slice (some ⟨i, (if m = l then off else off + l * size), none⟩) (h - l) (m - l)) else none
                  | none => pureE (.slice none (h - l) (m - l))
                  | _ => none
                | none => none
              | none => none
            | none => none
          | none => none
      | none => none
    | _ => none
  | .string _ => plainOp P e o
  | _ => none

def opFieldAddr (P : Program) (t : TypeId) (x : Value) (f : Nat) : Option E :=
  match P.underlying t, x with
  | some (.struct fs), .pointer (some ⟨i, off, none⟩) => match fs[f]? with
    | some f => match sizeT P f.type with
      | some (_ + 1) => pureE (ptr i (off + f.offset))
      | _ => none
    | none => none
  | _, _ => none
def opField (P : Program) (t : TypeId) (x : Value) (f : Nat) : Option E :=
  match P.underlying t, x with
  | some (.struct fs), .agg cs => match fs[f]? with
    | some f => match partV P f.type cs f.offset with
      | some v => pureE v
      | none => none
    | none => none
  | _, _ => none
def inside (x : Value) (n : Nat) : Option Nat :=
  match x with
  | .int _ i => if 0 ≤ i ∧ i < (n : Int) then some i.toNat else none
  | _ => none
def opIndexAddr (P : Program) (t : TypeId) (x ix : Value) : Option E :=
  match P.underlying t, x with
  | some (.slice el), .slice (some ⟨i, off, none⟩) len _ => match inside ix len, sizeT P el with
    | some k, some n => pureE (ptr i (off + k * n))
    | _, _ => none
  | some (.array len el), .pointer (some ⟨i, off, none⟩) => match inside ix len, sizeT P el with
    | some k, some n => pureE (ptr i (off + k * n))
    | _, _ => none
  | _, _ => none
def opIndex (P : Program) (e : Operand → Value) (o : Oper) (t : TypeId) (x ix : Value) : Option E :=
  match P.underlying t, x with
  | some (.array len el), .agg cs => match inside ix len, sizeT P el with
    | some k, some n => match partV P el cs (k * n) with
      | some v => pureE v
      | none => none
    | _, _ => none
  | _, _ => plainOp P e o

/-- Where a key stands among some. -/
def keyAt (P : Program) (kt : TypeId) (emp : Bool) (k : Value) (es : List MapEntry) : Option (Option Nat) :=
  bif noAddr k && es.all (fun e => noAddr e.key) then
    match semPlain P (Instr.checkKey emp 10000 kt k) with
    | some _ => match semPlain P (Instr.findKey kt k (es.map fun e => { e with val := undef })) with
      | some (some (i, _)) => some (some i)
      | some none => some none
      | none => none
    | none => none
  else none
def entries (g : G) (x : Value) : Option (List MapEntry × List Nat) :=
  match x with
  | .map none => some ([], [])
  | .map (some r) => match g r with
    | some (.map es _) => some (es, [r])
    | _ => none
  | _ => none
def opLookup (P : Program) (g : G) (t : TypeId) (x k : Value) (ok : Bool) : Option E :=
  match P.underlying t with
  | some (.map kt el) => match entries g x with
    | some (es, rd) => match keyAt P kt es.isEmpty k es with
      | some (some i) => match es[i]? with
        | some en => some ⟨(bif ok then .tuple #[en.val, .bool true] else en.val), rd, [], 0⟩
        | none => none
      | some none => match zeroOf P el with
        | some z => some ⟨(bif ok then .tuple #[z, .bool false] else z), rd, [], 0⟩
        | none => none
      | none => none
    | none => none
  | _ => none
def opMapUpdate (P : Program) (g : G) (t : TypeId) (x k v : Value) : Option E :=
  match P.underlying t, x with
  | some (.map kt _), .map (some r) => match g r with
    | some (.map es clock) => match keyAt P kt false k es with
      | some (some i) => match es[i]? with
        | some en => bif Instr.sameBits 10000 en.key k then some ⟨undef, [r], [(r, some (.map (es.modify i fun en => { en with key := k, val := v }) clock))], 0⟩ else none
        | none => none
      | some none => some ⟨undef, [r], [(r, some (.map (es ++ [{ key := k, val := v, born := clock }]) (clock + 1)))], 0⟩
      | none => none
    | _ => none
  | _, _ => none
def opMapEntry (P : Program) (g : G) (t : TypeId) (x k : Value) : Option E :=
  match P.underlying t, x with
  | some (.map kt el), .map (some r) => match g r with
    | some (.map es clock) => match keyAt P kt false k es with
      | some (some i) => match es[i]? with
        | some en => bif Instr.sameBits 10000 en.key k then some ⟨.tuple #[en.val, goInt en.born], [r], [(r, some (.map (es.modify i fun en => { en with key := k }) clock))], 0⟩ else none
        | none => none
      | some none => match zeroOf P el with
        | some z => some ⟨.tuple #[z, goInt clock], [r], [(r, some (.map (es ++ [{ key := k, val := z, born := clock }]) (clock + 1)))], 0⟩
        | none => none
      | none => none
    | _ => none
  | _, _ => none
def opEntryStore (g : G) (x st v : Value) : Option E :=
  match x, st with
  | .map (some r), .int _ born => match g r with
    | some (.map es clock) => match es.findIdx? (fun en => (en.born : Int) == born) with
      | some i => some ⟨undef, [r], [(r, some (.map (es.modify i fun en => { en with val := v }) clock))], 0⟩
      | none => none
    | _ => none
  | _, _ => none

def opRange (P : Program) (g : G) (c : Nat) (t : TypeId) (x : Value) : Option E :=
  match P.underlying t, x with
  | some .string, .string b => newE c (ptr c 0) (.striter b 0)
  | some (.map _ _), .map none => newE c (ptr c 0) (.mapiter none 0 [] 0)
  | some (.map _ _), .map (some m) => match g m with
    | some (.map _ clock) => some ⟨ptr c 0, [m], [(c, some (.mapiter (some m) clock [] clock))], 1⟩
    | _ => none
  | _, _ => none
def opNext (g : G) (x : Value) (isString : Bool) : Option E :=
  match x with
  | .pointer (some ⟨r, 0, none⟩) => match g r, isString with
    | some (.striter b pos), true =>
      if pos < b.size then some ⟨.tuple #[.bool true, goInt pos, .int .i32 (Utf8.decode b pos).1], [r], [(r, some (.striter b (pos + (Utf8.decode b pos).2)))], 0⟩
      else some ⟨.tuple #[.bool false], [r], [], 0⟩
    | some (.mapiter none _ _ _), false => some ⟨.tuple #[.bool false], [r], [], 0⟩
    | some (.mapiter (some m) since seen last), false => match g m with
      | some (.map es clock) =>
        bif !seen.isEmpty && !es.isEmpty && es.all (fun en => Nat.ble last en.born) then none else
        match es.filter (fun en => !seen.contains en.born) with
        | [] => some ⟨.tuple #[.bool false], [m, r], [], 0⟩
        | [en] => bif Nat.blt en.born since then some ⟨.tuple #[.bool true, en.key, en.val], [m, r], [(r, some (.mapiter (some m) since (seen ++ [en.born]) clock))], 0⟩ else none
        | _ => none
      | _ => none
    | _, _ => none
  | _ => none
def opEntry (g : G) (x : Value) : Option E :=
  match x with
  | .pointer (some ⟨r, 0, none⟩) => match g r with
    | some (.mapiter (some m) _ seen stepped) => match seen.getLast?, g m with
      | some stamp, some (.map es clock) => bif Nat.beq clock stepped then match es.find? (fun en => en.born == stamp) with
          | some en => some ⟨.tuple #[en.key, en.val], [m, r], [], 0⟩
          | none => none
        else none
      | _, _ => none
    | _ => none
  | _ => none
def opTypeAssert (P : Program) (x : Value) (asserted : TypeId) (ok : Bool) : Option E :=
  match P.underlying asserted with
  | some (.interface _) => none
  | some _ => match x with
    | .nilIface => bif ok then match zeroOf P asserted with | some z => pureE (.tuple #[z, .bool false]) | none => none else none
    | .iface t v => bif Nat.beq t asserted then pureE (bif ok then .tuple #[v, .bool true] else v)
      else bif ok then match zeroOf P asserted with | some z => pureE (.tuple #[z, .bool false]) | none => none else none
    | _ => none
  | none => none
def opExtract (x : Value) (i : Nat) : Option E :=
  match x with
  | .tuple vs => match vs[i]? with | some v => pureE v | none => none
  | _ => none

def opLen (P : Program) (g : G) (ats : Array TypeId) (x : Value) : Option E :=
  match ats[0]? with
  | some t => match P.underlying t, x with
    | some (.slice _), .slice _ n _ => pureE (goInt n)
    | some (.map _ _), .map none => pureE (goInt 0)
    | some (.map _ _), .map (some r) => match g r with | some (.map es _) => some ⟨goInt es.length, [r], [], 0⟩ | _ => none
    | some (.array n _), _ => pureE (goInt n)
    | some .string, .string b => pureE (goInt b.size)
    | _, _ => none
  | none => none
def opCap (P : Program) (ats : Array TypeId) (x : Value) : Option E :=
  match ats[0]? with
  | some t => match P.underlying t, x with
    | some (.slice _), .slice _ _ c => bif Nat.blt c big then pureE (goInt c) else none
    | _, _ => none
  | none => none
/-- The cells that are appended, or copied: how many elements, the cells, where they were looked at. -/
def srcCells (g : G) (size : Nat) (x : Value) : Option (Nat × List Value × List Nat) :=
  match x with
  | .slice none n _ => bif Nat.beq n 0 then some (0, [], []) else none
  | .slice (some ⟨i, off, none⟩) n _ => match loadN g i off (n * size) with
    | some l => some (n, l, [i])
    | none => none
  | .string b => some (b.size, b.data.toList.map fun c => .int .u8 c.toNat, [])
  | _ => none
def nonInt (P : Program) (t : TypeId) : Bool :=
  match P.underlying t with
  | some (.int _) => false
  | some _ => true
  | none => false
def opAppend (P : Program) (g : G) (c : Nat) (ats : Array TypeId) (s x : Value) : Option E :=
  match ats[0]?, ats[1]? with
  | some t, some u => match P.underlying t with
    | some (.slice el) => match P.info? el, zeroOf P el, s with
      | some inf, some z, .slice base len cap => match srcCells g inf.size x with
        | some (n, cells, rd) =>
          bif nonInt P u && cells.all oneCell && Nat.beq cells.length (n * inf.size) && Nat.ble ((2 * (len + n) + 1000) * (inf.bytes + 1)) lim && Nat.beq z.cells.size inf.size then
            bif Nat.ble (len + n) (capLo cap) then
              match base with
              | some ⟨i, off, none⟩ => match storeE g i (off + len * inf.size) cells (.slice base (len + n) cap) with
                | some E => some ⟨E.v, rd ++ E.rd, E.up, E.n⟩
                | none => none
              | none => bif Nat.beq n 0 then some ⟨.slice none len cap, rd, [], 0⟩ else none
              | _ => none
            else match base with
              | none => bif Nat.beq len 0 && Nat.blt cap big then some ⟨.slice (some ⟨c, 0, none⟩) (len + n) (len + n + big), rd, [(c, some (.cells false el cells))], 1⟩ else none
              | some ⟨i, off, none⟩ => match g i with
                | some (.cells _ t' _) => match loadN g i off (len * inf.size) with
                  | some old => bif Nat.blt cap big
                    then some ⟨.slice (some ⟨c, 0, none⟩) (len + n) (len + n + big), i :: rd, [(c, some (.cells false el (old ++ cells)))], 1⟩
                    else bif Nat.beq t' el then some ⟨.slice (some ⟨c, 0, none⟩) (len + n) (len + n + big), i :: rd, [(c, some (.cells false el (old ++ cells))), (i, none)], 1⟩ else none
                  | none => none
                | _ => none
              | _ => none
          else none
        | none => none
      | _, _, _ => none
    | _ => none
  | _, _ => none
def copySrc (g : G) (size dl : Nat) (x : Value) : Option (Nat × List Value × List Nat) :=
  match x with
  | .slice none n _ => bif Nat.beq (Nat.min n dl) 0 then some (0, [], []) else none
  | .slice (some ⟨i, off, none⟩) n _ => match loadN g i off (Nat.min n dl * size) with
    | some l => some (Nat.min n dl, l, [i])
    | none => none
  | .string b => some (Nat.min b.size dl, (b.data.toList.take (Nat.min b.size dl)).map fun c => .int .u8 c.toNat, [])
  | _ => none
def opCopy (P : Program) (g : G) (ats : Array TypeId) (d x : Value) : Option E :=
  match ats[0]? with
  | some t => match P.underlying t with
    | some (.slice el) => match sizeT P el, d with
      | some size, .slice base dl _ => match copySrc g size dl x with
        | some (m, cells, rd) => bif cells.all oneCell then match base with
            | none => some ⟨goInt m, rd, [], 0⟩
            | some ⟨i, off, none⟩ => match storeE g i off cells (goInt m) with
              | some E => bif Nat.beq m 0 && !cells.isEmpty then none else some ⟨E.v, rd ++ E.rd, E.up, E.n⟩
              | none => none
            | _ => none
          else none
        | none => none
      | _, _ => none
    | _ => none
  | none => none
def opClear (P : Program) (g : G) (ats : Array TypeId) (x : Value) : Option E :=
  match ats[0]? with
  | some t => match P.underlying t, x with
    | some (.slice _), .slice none _ _ => pureE (.tuple #[])
    | some (.slice _), .slice _ 0 _ => pureE (.tuple #[])
    | some (.slice el), .slice (some ⟨i, off, none⟩) n _ => match zeroOf P el with
      | some z => bif (Builtin.zeroCells z.cells n).toList.all oneCell then storeE g i off (Builtin.zeroCells z.cells n).toList (.tuple #[]) else none
      | none => none
    | _, _ => none
  | none => none

def opBuiltin (P : Program) (e : Operand → Value) (g : G) (c : Nat) (o : Oper) (b : Builtin) (ats : Array TypeId) (l : List Value) : Option E :=
  match b, l with
  | .len, [x] => opLen P g ats x
  | .cap, [x] => opCap P ats x
  | .append, [s, x] => opAppend P g c ats s x
  | .copy, [d, x] => opCopy P g ats d x
  | .clear, [x] => opClear P g ats x
  | .recover, _ => none
  | _, _ => plainOp P e o

/-- What an operation that calls nothing does. -/
def evOp (P : Program) (t : Tr Value) (o : Oper) (g : G) (c : Nat) : Option E :=
  match o.op with
  | .move x | .assign x => pureE (ev t x)
  | .pick b x y => match ev t b with | .bool d => pureE (bif d then ev t x else ev t y) | _ => none
  | .alloc el => opAlloc P c el
  | .box el x => opBox P c el (ev t x)
  | .build ty parts => opBuild P ty (parts.toList.map fun p => (p.1, ev t p.2))
  | .buildSlice ty len parts => opBuildSlice P c ty len (parts.toList.map fun p => (p.1, ev t p.2))
  | .load ty a => opLoad P g ty (ev t a)
  | .store ty a x => opStore P g ty (ev t a) (ev t x)
  | .nilCheck x => opNilCheck (ev t x)
  | .binOp op ty x y _ => opBin P (ev t) g o op ty (ev t x) (ev t y)
  | .convert src dst x => opConvert P (ev t) g c o src dst (ev t x)
  | .makeInterface ty x => opMakeIface P ty (ev t x)
  | .makeFunc fn first captured => opMakeFunc fn (first.map (ev t)) (captured.map (ev t))
  | .makeMap ty r => opMakeMap P c ty (r.map (ev t))
  | .makeSlice ty l k => opMakeSlice P c ty (ev t l) (ev t k)
  | .slice ty x lo hi mx => opSlice P (ev t) g o ty (ev t x) (lo.map (ev t)) (hi.map (ev t)) (mx.map (ev t))
  | .fieldAddr ty x f => opFieldAddr P ty (ev t x) f
  | .field ty x f => opField P ty (ev t x) f
  | .indexAddr ty x ix => opIndexAddr P ty (ev t x) (ev t ix)
  | .index ty x ix => opIndex P (ev t) o ty (ev t x) (ev t ix)
  | .lookup ty x k ok => opLookup P g ty (ev t x) (ev t k) ok
  | .mapUpdate ty m k x | .insert ty m k x => opMapUpdate P g ty (ev t m) (ev t k) (ev t x)
  | .mapEntry ty m k => opMapEntry P g ty (ev t m) (ev t k)
  | .entryStore _ m st x => opEntryStore g (ev t m) (ev t st) (ev t x)
  | .range ty x => opRange P g c ty (ev t x)
  | .next it isString => opNext g (ev t it) isString
  | .entry it => opEntry g (ev t it)
  | .typeAssert x _ asserted ok => opTypeAssert P (ev t x) asserted ok
  | .extract x i => opExtract (ev t x) i
  | .call { callee := .builtin b, args, argTypes } => opBuiltin P (ev t) g c o b argTypes (args.toList.map (ev t))
  | .unOp .. => plainOp P (ev t) o
  | _ => none
end Go.Proofs.YtbnmjdmbdoehlaaGreatDoor.Ev
