/- AM, part 4: the model's code to the abstract machine's, and how that runs. (definitions alone) -/
import Derived.Test.YthihegmbdclikaaDoorAmOps
namespace Go.AM
noncomputable section
open Go.RowKit

def ofConst1 : Value → Option AVal
  | .bool b => some (.bool b)
  | .int k n => some (.int k n)
  | .string s => some (.str (s.data.toList.map UInt8.toNat))
  | .pointer none => some .nilp
  | .slice none 0 0 => some .nils
  | .nilFunc => some .nilf
  | .nilIface => some .nili
  | .map none => some .nilm
  | _ => none

def ofConsts : List Value → Option (List AVal)
  | [] => some []
  | v :: r => match ofConst1 v, ofConsts r with
    | some x, some xs => some (x :: xs)
    | _, _ => none

def ofConst : Value → Option AVal
  | .agg cs => match ofConsts cs.toList with
    | some xs => some (.agg xs)
    | none => none
  | .tuple cs => match ofConsts cs.toList with
    | some xs => some (.tuple xs)
    | none => none
  | v => ofConst1 v

def cOpd : Operand → Option AOpd
  | .tmp t => some (.tmp t)
  | .const v => match ofConst v with
    | some x => some (.val x)
    | none => none
  | .global g => some (.val (.ptr (.inp (2 * g)) 0))
  | .func f => some (.val (.func (.func f) [] []))

def cOpds : List Operand → Option (List AOpd)
  | [] => some []
  | x :: r => match cOpd x, cOpds r with
    | some y, some ys => some (y :: ys)
    | _, _ => none

def cOpt : Option Operand → Option (Option AOpd)
  | none => some none
  | some x => match cOpd x with
    | some y => some (some y)
    | none => none

def sizeP (P : Program) (t : TypeId) : Option Nat :=
  match P.info? t with
  | some i => some i.size
  | none => none

def zeroP (P : Program) (t : TypeId) : Option AVal :=
  match P.info? t with
  | some i => match i.zero with
    | some v => ofConst v
    | none => none
  | none => none

def isAggP (P : Program) (t : TypeId) : Option Bool :=
  match P.underlying t with
  | some (.struct _) | some (.array _ _) => some true
  | some _ => some false
  | none => none

def scalarT (P : Program) (t : TypeId) : Option ST :=
  match P.underlying t with
  | some .bool => some .b
  | some (.int _) => some .i
  | some .string => some .s
  | _ => none

def scalarFields (P : Program) : Nat → List Field → Option (List ST)
  | _, [] => some []
  | i, f :: r => match f.name != "_" && Nat.beq f.offset i, scalarT P f.type, scalarFields P (i + 1) r with
    | true, some k, some ks => some (k :: ks)
    | _, _, _ => none

def placesP (P : Program) (fields : Array Field) : Option (List (Nat × Nat)) :=
  fields.toList.mapM (fun f => (P.info? f.type).map fun i => (f.offset, i.size))

def cParts (place : Nat → Option (Nat × Nat)) : List (Nat × Operand) → Option (List (Nat × Nat × AOpd))
  | [] => some []
  | (i, x) :: r => match place i, cOpd x, cParts place r with
    | some (off, n), some y, some ys => some ((off, n, y) :: ys)
    | _, _, _ => none

def isConstO : Operand → Bool
  | .const _ => true
  | _ => false

def eqKind (P : Program) (t : TypeId) : Option EqK :=
  match P.underlying t with
  | some .bool => some .bool
  | some (.pointer e) => match sizeP P e with
    | some (_ + 1) => some .ptr
    | _ => none
  | some (.slice _) => some .slice
  | some (.func _ _ _) => some .func
  | some (.interface _) => some .iface
  | some (.struct fs) => match scalarFields P 0 fs.toList, !P.stoodInHeld t && !P.eqGuardType P.depth t with
    | some ks, true => some (.struct ks)
    | _, _ => none
  | _ => none

def cBuiltin (P : Program) (b : Builtin) (argTypes : List TypeId) (args : List AOpd) : Option AOp :=
  match b, argTypes, args with
  | .len, t :: _, x :: _ => match P.underlying t with
    | some .string => some (.lenStr x)
    | some (.slice _) => some (.lenSl x)
    | _ => none
  | .append, [t, u], [x, y] => match P.underlying t, P.underlying u with
    | some (.slice e), some d => match P.info? e, zeroP P e, (match d with | .string | .slice _ => true | _ => false) with
      | some i, some z, true => match Nat.beq z.cells.length i.size && Nat.blt 0 i.size with
        | true => some (.append i.size i.bytes x y)
        | false => none
      | _, _, _ => none
    | _, _ => none
  | .min, _, x :: xs => some (.minmax false (x :: xs))
  | .max, _, x :: xs => some (.minmax true (x :: xs))
  | _, _, _ => none

def cOp (P : Program) (op : Op) : Option AOp :=
  match op with
  | .move x | .assign x => (cOpd x).map .move
  | .pick c a b => match cOpd c, cOpd a, cOpd b with
    | some c, some a, some b => some (.pick c a b)
    | _, _, _ => none
  | .alloc t => (zeroP P t).map fun z => .alloc z.cells
  | .box _ x => (cOpd x).map .box
  | .build t parts => match zeroP P t, P.underlying t with
    | some z, some (.struct fields) => match placesP P fields with
      | some pl => (cParts (pl.toArray[·]?) parts.toList).map (.build z.cells)
      | none => none
    | some z, some (.array _ e) => match sizeP P e with
      | some n => (cParts (fun i => some (i * n, n)) parts.toList).map (.build z.cells)
      | none => none
    | _, _ => none
  | .buildSlice t n parts => match P.underlying t with
    | some (.slice e) => match sizeP P e, zeroP P e with
      | some sz, some z => match Nat.beq z.cells.length sz && Nat.blt 0 sz && Nat.ble (n * sz) 16777216 with
        | true => (cParts (fun i => some (i * sz, sz)) parts.toList).map (.buildSlice z.cells n)
        | false => none
      | _, _ => none
    | _ => none
  | .load t a => match isAggP P t, sizeP P t, cOpd a with
    | some true, some n, some a => some (.loadN n a)
    | some false, some _, some a => some (.load1 a)
    | _, _, _ => none
  | .store t a x => match sizeP P t, cOpd a, cOpd x with
    | some n, some a, some x => some (.store n a x)
    | _, _, _ => none
  | .nilCheck x => (cOpd x).map .nilCheck
  | .binOp op t x y _ => match cOpd x, cOpd y with
    | some x', some y' => match op with
      | .eql | .neq => match P.underlying t with
        | some (.int _) | some .string => some (.bin op x' y')
        | _ => (eqKind P t).map fun ek => .eq (op == .neq) ek (isConstO x || isConstO y) x' y'
      | _ => some (.bin op x' y')
    | _, _ => none
  | .unOp op _ x => (cOpd x).map (.un op)
  | .convert src dst x => match cOpd x, P.underlying src, P.underlying dst with
    | some x, some (.int _), some (.int k) => some (.toInt k x)
    | some x, some .string, some .string => some (.asStr x)
    | some x, some .string, some (.slice e) => match P.underlying e with
      | some (.int .u8) => some (.toBytes x)
      | _ => none
    | some x, some (.slice e), some .string => match P.underlying e with
      | some (.int .u8) => some (.toStr x)
      | _ => none
    | _, _, _ => none
  | .makeInterface t x => match P.underlying t with
    | some (.interface _) => none
    | some _ => (cOpd x).map (.iface t)
    | none => none
  | .makeFunc fn a b => match cOpds a.toList, cOpds b.toList with
    | some a, some b => some (.mkFunc fn a b)
    | _, _ => none
  | .makeSlice t l c => match P.underlying t with
    | some (.slice e) => match P.info? e, zeroP P e, cOpd l, cOpd c with
      | some i, some z, some l, some c => match Nat.beq z.cells.length i.size && Nat.blt 0 i.size with
        | true => some (.makeSlice z.cells i.bytes l c)
        | false => none
      | _, _, _, _ => none
    | _ => none
  | .slice t x lo hi mx => match cOpd x, cOpt lo, cOpt hi, cOpt mx, P.underlying t with
    | some x, some lo, some hi, some mx, some (.array n e) => (sizeP P e).map fun sz => .sliceArr n sz x lo hi mx
    | some x, some lo, some hi, some none, some .string => some (.sliceStr x lo hi)
    | some x, some lo, some hi, some mx, some (.slice e) => (sizeP P e).map fun sz => .sliceS sz x lo hi mx
    | _, _, _, _, _ => none
  | .fieldAddr s x i => match P.underlying s, cOpd x with
    | some (.struct fields), some x => match fields[i]? with
      | some f => match sizeP P f.type with
        | some (_ + 1) => some (.fieldAddr f.offset x)
        | _ => none
      | none => none
    | _, _ => none
  | .field t x i => match P.underlying t, cOpd x with
    | some (.struct fields), some x => match fields[i]? with
      | some f => match isAggP P f.type, sizeP P f.type with
        | some true, some n => some (.fieldN f.offset n x)
        | some false, some _ => some (.field1 f.offset x)
        | _, _ => none
      | none => none
    | _, _ => none
  | .indexAddr t x i => match P.underlying t, cOpd x, cOpd i with
    | some (.array n e), some x, some i => (sizeP P e).map fun sz => .indexAddrArr n sz x i
    | some (.slice e), some x, some i => (sizeP P e).map fun sz => .indexAddr sz x i
    | _, _, _ => none
  | .index t x i => match P.underlying t, cOpd x, cOpd i with
    | some (.array n e), some x, some i => match isAggP P e, sizeP P e with
      | some true, some sz => some (.indexN n sz x i)
      | some false, some 1 => some (.index1 n x i)
      | _, _ => none
    | some .string, some x, some i => some (.indexStr x i)
    | _, _, _ => none
  | .extract x i => (cOpd x).map fun x => .extract x i
  | .typeAssert x _ t ok => match cOpd x, zeroP P t, P.underlying t with
    | some x, some z, some (.interface _) => some (.assertI t z ok x)
    | some x, some z, some _ => some (.assertT t z ok x)
    | _, _, _ => none
  | .call c => match cOpds c.args.toList with
    | none => none
    | some args => match c.callee with
      | .value (.func f) => some (.call f args)
      | .value x => match cOpd x with
        | some x => some (.callv x args)
        | none => none
      | .invoke x name => match cOpd x with
        | some x => some (.invoke x name args)
        | none => none
      | .builtin b => cBuiltin P b c.argTypes.toList args
  | _ => none

def cOper (P : Program) (ops : Array Oper) (o : Oper) : Option AOper :=
  match cOp P o.op with
  | none => none
  | some ao => match o.guard with
    | none => some ⟨o.dst, ao, none⟩
    | some (j, want) => match (ops[j]?).bind (·.dst) with
      | some t => some ⟨o.dst, ao, some (t, want)⟩
      | none => none

def cOpers (P : Program) (ops : Array Oper) : List Oper → Option (List AOper)
  | [] => some []
  | o :: r => match cOper P ops o, cOpers P ops r with
    | some a, some as' => some (a :: as')
    | _, _ => none

/-! ### regions that draw their order -/
def AOpd.looks : AOpd → List Nat
  | .tmp t => [t]
  | .val _ => []
def optLooks : Option AOpd → List Nat
  | some x => x.looks
  | none => []

def MOp.looks : MOp → List Nat
  | .alloc _ => []
  | .box x => x.looks
  | .buildSlice _ _ ps => ps.flatMap fun p => p.2.2.looks
  | .makeSlice _ _ l c => l.looks ++ c.looks

/-- The slots that an operation reads. -/
def AOp.looks : AOp → List Nat
  | .move x | .box x | .load1 x | .loadN _ x | .nilCheck x | .un _ x | .toInt _ x | .toBytes x | .toStr x | .asStr x | .iface _ x | .fieldAddr _ x | .field1 _ x | .fieldN _ _ x
  | .extract x _ | .assertI _ _ _ x | .assertT _ _ _ x | .lenStr x | .lenSl x => x.looks
  | .pick c a b => c.looks ++ (a.looks ++ b.looks)
  | .alloc _ => []
  | .build _ ps | .buildSlice _ _ ps => ps.flatMap fun p => p.2.2.looks
  | .store _ a x | .bin _ a x | .eq _ _ _ a x | .makeSlice _ _ a x | .indexAddr _ a x | .indexAddrArr _ _ a x | .indexStr a x | .index1 _ a x | .indexN _ _ a x | .append _ _ a x => a.looks ++ x.looks
  | .mkFunc _ a b => a.flatMap AOpd.looks ++ b.flatMap AOpd.looks
  | .sliceS _ x lo hi mx | .sliceArr _ _ x lo hi mx => x.looks ++ (optLooks lo ++ (optLooks hi ++ optLooks mx))
  | .sliceStr x lo hi => x.looks ++ (optLooks lo ++ optLooks hi)
  | .minmax _ xs => xs.flatMap AOpd.looks
  | .call _ xs => xs.flatMap AOpd.looks
  | .callv x xs => x.looks ++ xs.flatMap AOpd.looks
  | .invoke x _ xs => x.looks ++ xs.flatMap AOpd.looks
  | .resv _ m => m.looks

/-- It leaves the heap alone. -/
def AOp.calm : AOp → Bool
  | .alloc _ | .box _ | .buildSlice _ _ _ | .store _ _ _ | .toBytes _ | .makeSlice _ _ _ _ | .append _ _ _ _ | .call _ _ | .callv _ _ | .invoke _ _ _ | .resv _ _ => false
  | _ => true

/-- It does not even read the heap. -/
def AOp.dry : AOp → Bool
  | .load1 _ | .loadN _ _ | .toStr _ | .eq _ _ _ _ _ => false
  | op => op.calm

def AOper.looks (o : AOper) : List Nat :=
  match o.guard with
  | some (t, _) => t :: o.op.looks
  | none => o.op.looks

def directs (o : Oper) : List Nat := (o.after.toList.filter (Region.binds .any)).map (·.on)

/-- What stands ahead of each operation, in every order. -/
def befs : List Oper → List (List Nat) → List (List Nat)
  | [], acc => acc
  | o :: r, acc => befs r (acc ++ [directs o ++ (directs o).flatMap fun j => acc.getD j []])

def hasN (l : List Nat) (n : Nat) : Bool := l.any (Nat.beq n)

/-- It makes memory at a number that is kept for it. -/
def AOp.kept : AOp → Bool
  | .resv _ _ => true
  | _ => false

/-- Two operations, the first ahead of the second in the list: may they stand in a region that draws? -/
def pairOk (b : List (List Nat)) (i j : Nat) (x y : AOper) : Bool :=
  (x.op.calm || y.op.calm || y.op.kept || hasN (b.getD j []) i) &&
  (match x.dst with
    | some d => (!hasN y.looks d || hasN (b.getD j []) i) && (match y.dst with | some e => !Nat.beq d e | none => true)
    | none => true) &&
  (match y.dst with
    | some d => !hasN x.looks d || hasN (b.getD j []) i
    | none => true)

def rowOk (b : List (List Nat)) (i : Nat) (x : AOper) : Nat → List AOper → Bool
  | _, [] => true
  | j, y :: r => pairOk b i j x y && rowOk b i x (j + 1) r

def rowsOk (b : List (List Nat)) : Nat → List AOper → Bool
  | _, [] => true
  | i, x :: r => rowOk b i x (i + 1) r && rowsOk b (i + 1) r

def edgesOk : Nat → List Oper → Bool
  | _, [] => true
  | i, o :: r => (directs o).all (fun j => Nat.blt j i) && edgesOk (i + 1) r

/-- The numbers of those operations that change the heap. -/
def heavies : Nat → List AOper → List Nat
  | _, [] => []
  | i, x :: r => match x.op.calm with
    | true => heavies (i + 1) r
    | false => i :: heavies (i + 1) r

def keptAt (l : List AOper) (p : Nat) : Bool := match l[p]? with | some x => x.op.kept | none => false

/-- May operation 'i' come up behind just the first 's' of them (and some of those that are kept for)? -/
def okAt (b : List (List Nat)) (kp : Nat → Bool) (hv : List Nat) (i s : Nat) : Bool := (hv.take s).all (fun p => !hasN (b.getD p []) i) && (hv.drop s).all (fun p => !hasN (b.getD i []) p || kp p)

def infoFrom (b : List (List Nat)) (kp : Nat → Bool) (hv : List Nat) : Nat → Nat → List AOper → List (Bool × List Nat)
  | _, _, [] => []
  | i, c, x :: r => match x.op.calm with
    | false => (true, []) :: infoFrom b kp hv (i + 1) (c + 1) r
    | true => match x.op.dry with
      | true => (false, []) :: infoFrom b kp hv (i + 1) c r
      | false => (false, (List.range (hv.length + 1)).filter fun s => !Nat.beq s c && okAt b kp hv i s) :: infoFrom b kp hv (i + 1) c r

/-! the order in which the abstract machine takes them: what makes memory as late as it may be -/
def addAll (l acc : List Nat) : List Nat := l.foldl (fun acc i => if hasN acc i then acc else acc ++ [i]) acc
def sunk (b : List (List Nat)) (n : Nat) : List Nat → List Nat → List Nat
  | [], acc => addAll (List.range n) acc
  | j :: r, acc => sunk b n r (addAll [j] (addAll ((List.range n).filter (hasN (b.getD j []))) acc))

def AOp.toM : AOp → Option MOp
  | .alloc z => some (.alloc z)
  | .box x => some (.box x)
  | .buildSlice z n ps => some (.buildSlice z n ps)
  | .makeSlice z bytes l c => some (.makeSlice z bytes l c)
  | _ => none

/-- The same operation, its memory at the number that is kept for it. -/
def keepOne (q : Nat) (x : AOper) : Option AOper :=
  match x.guard, x.op.toM with
  | none, some m => some ⟨x.dst, .resv q m, none⟩
  | _, _ => none

def keepAll : Nat → List AOper → List AOper × Nat
  | q, [] => ([], q)
  | q, x :: r => match keepOne q x with
    | some y => ((y :: (keepAll (q + 1) r).1), (keepAll (q + 1) r).2)
    | none => ((x :: (keepAll q r).1), (keepAll q r).2)

def picks (aos : List AOper) : List Nat → Option (List AOper)
  | [] => some []
  | i :: r => match aos[i]?, picks aos r with
    | some x, some xs => some (x :: xs)
    | _, _ => none

def nodupN : List Nat → Bool
  | [] => true
  | i :: r => !hasN r i && nodupN r

/-- What stands ahead of each, by the places in the list 'perm'. -/
def posB (b : List (List Nat)) (perm : List Nat) : List (List Nat) :=
  perm.map fun i => (List.range perm.length).filter fun q => hasN (b.getD i []) (perm.getD q 0)

structure DrawC where
  ops : List AOper
  info : List (Bool × List Nat)
  m : Nat

def permOk (n : Nat) (perm : List Nat) : Bool := nodupN perm && (List.range n).all (hasN perm) && Nat.beq perm.length n

def drawInfo (ops : List Oper) (aos : List AOper) : Option DrawC :=
  let b := befs ops []
  match edgesOk 0 ops with
  | false => none
  | true => match rowsOk b 0 aos with
    | true => some ⟨aos, infoFrom b (fun _ => false) (heavies 0 aos) 0 0 aos, 0⟩
    | false =>
      let hs := (List.range ops.length).filter fun i => match aos[i]? with | some x => !x.op.calm && (keepOne 0 x).isNone | none => false
      let perm := sunk b ops.length hs []
      match picks aos perm with
      | some l0 =>
        let l := (keepAll 0 l0).1
        let pb := posB b perm
        match permOk ops.length perm && rowsOk pb 0 l with
        | true => some ⟨l, infoFrom pb (keptAt l) (heavies 0 l) 0 0 l, (keepAll 0 l0).2⟩
        | false => none
      | none => none

def cCode (P : Program) : Code → Option ACode
  | .skip => some .skip
  | .region _ ops draw => match draw with
    | false => (cOpers P ops ops.toList).map .region
    | true => match cOpers P ops ops.toList with
      | some aos => (drawInfo ops.toList aos).map fun d => .draw d.ops d.info d.m
      | none => none
  | .seq a b => match cCode P a, cCode P b with
    | some a, some b => some (.seq a b)
    | _, _ => none
  | .cond c t e => match cOpd c, cCode P t, cCode P e with
    | some c, some t, some e => some (.cond c t e)
    | _, _, _ => none
  | .block id c => (cCode P c).map (.block id)
  | .loop c => (cCode P c).map .loop
  | .exit id => some (.exit id)
  | .ret => some .ret
  | _ => none

def cRes (P : Program) : List ResultVar → Option (List ARes)
  | [] => some []
  | .tmp t :: r => (cRes P r).map (.tmp t :: ·)
  | .cell a t :: r => match isAggP P t, sizeP P t, cRes P r with
    | some true, some n, some rs => some (.cellN a n :: rs)
    | some false, some _, some rs => some (.cell1 a :: rs)
    | _, _, _ => none

def opersIn (n : Nat) (ops : List AOper) : Bool := ops.all fun o => match o.dst with | some d => Nat.blt d n | none => true

def ACode.within (n : Nat) : ACode → Bool
  | .region ops | .draw ops _ _ => opersIn n ops
  | .seq a b => a.within n && b.within n
  | .cond _ a b => a.within n && b.within n
  | .block _ c | .loop c => c.within n
  | _ => true

def cFunc (P : Program) (fn : Func) : Option AFunc :=
  match fn.body with
  | none => none
  | some c => match cCode P c, cRes P fn.results.toList with
    | some c, some rs => match c.within fn.ntmps && Nat.ble fn.ntmps 16000 with
      | true => some ⟨fn.ntmps, fn.params.size, rs, c⟩
      | false => none
    | _, _ => none

/-! ### running -/
inductive Ex where
  | normal
  | exit (id : Nat)
  | ret
  deriving DecidableEq, Inhabited

abbrev CallFn := Nat → List AVal → AHeap → Option (AVal × AHeap)

section
variable (P : Program) (I : Inp)

/-- The value that an operation gives, and the heap behind it. -/
def valOper (call : CallFn) (o : AOper) (f : Fr) (h : AHeap) : Option (AVal × AHeap) :=
  match o.guard with
  | none => match o.op.target P f with
    | some (g, args) => call g args h
    | none => o.op.stepK P I f h
  | some (t, want) => match f.get t with
    | .bool b => match b == want with
      | true => match o.op.target P f with
        | some (g, args) => call g args h
        | none => o.op.stepK P I f h
      | false => some (aundef, h)
    | _ => some (aundef, h)

def putDst (o : AOper) (f : Fr) (v : AVal) : Fr :=
  match o.dst with
  | some d => f.put d v
  | none => f

def runOper (call : CallFn) (o : AOper) (f : Fr) (h : AHeap) : Option (Fr × AHeap) :=
  match valOper P I call o f h with
  | some (v, h) => some (putDst o f v, h)
  | none => none

def runOps (call : CallFn) : List AOper → Fr → AHeap → Option (Fr × AHeap)
  | [], f, h => some (f, h)
  | o :: r, f, h => match runOper P I call o f h with
    | some (f, h) => runOps call r f h
    | none => none

/-- A region that draws its order, in the order of the text: of each operation the frame ahead of it, its value, the heap behind it. -/
def trace (call : CallFn) : List AOper → Fr → AHeap → Option (List (Fr × AVal × AHeap) × Fr × AHeap)
  | [], f, h => some ([], f, h)
  | o :: r, f, h => match valOper P I call o f h with
    | some (v, h1) => match trace call r (putDst o f v) h1 with
      | some (l, f', h') => some ((f, v, h1) :: l, f', h')
      | none => none
    | none => none

/-- Its number counted from a base. -/
def AOper.shift (base : Nat) (x : AOper) : AOper :=
  match x.op with
  | .resv k m => ⟨x.dst, .resv (base + k) m, x.guard⟩
  | _ => x

def heapsOf : List (Bool × List Nat) → List (Fr × AVal × AHeap) → List AHeap
  | (true, _) :: is, (_, _, h) :: es => h :: heapsOf is es
  | (false, _) :: is, _ :: es => heapsOf is es
  | _, _ => []

def chkOne (call : CallFn) (hs : List AHeap) (o : AOper) (e : Fr × AVal × AHeap) (s : Nat) : Bool :=
  match hs[s]? with
  | some h => match valOper P I call o e.1 h with
    | some (v, _) => v.eqb e.2.1
    | none => false
  | none => false

def chkAll (call : CallFn) (hs : List AHeap) : List AOper → List (Bool × List Nat) → List (Fr × AVal × AHeap) → Bool
  | o :: os, (_, l) :: is, e :: es => l.all (chkOne P I call hs o e) && chkAll call hs os is es
  | _, _, _ => true

def iter (body : Fr → AHeap → Option (Ex × Fr × AHeap)) : Nat → Fr → AHeap → Option (Ex × Fr × AHeap)
  | 0, _, _ => none
  | n + 1, f, h => match body f h with
    | some (.normal, f, h) => iter body n f h
    | r => r

def exec (call : CallFn) (n : Nat) : ACode → Fr → AHeap → Option (Ex × Fr × AHeap)
  | .skip, f, h => some (.normal, f, h)
  | .region ops, f, h => match runOps P I call ops f h with
    | some (f, h) => some (.normal, f, h)
    | none => none
  | .draw ops info m, f, h => match m with
    | 0 => match trace P I call ops f h with
      | some (es, f', h') => match chkAll P I call (h :: heapsOf info es) ops info es with
        | true => some (.normal, f', h')
        | false => none
      | none => none
    | m + 1 => match h.room with
      | true => match trace P I call (ops.map (AOper.shift h.next)) f ⟨h.t, h.next + (m + 1)⟩ with
        | some (es, f', h') => match chkAll P I call (⟨h.t, h.next + (m + 1)⟩ :: heapsOf info es) (ops.map (AOper.shift h.next)) info es with
          | true => some (.normal, f', h')
          | false => none
        | none => none
      | false => none
  | .seq a b, f, h => match exec call n a f h with
    | some (.normal, f, h) => exec call n b f h
    | r => r
  | .cond c t e, f, h => match c.ev f with
    | .bool true => exec call n t f h
    | .bool false => exec call n e f h
    | _ => none
  | .block id c, f, h => match exec call n c f h with
    | some (.exit i, f, h) => match Nat.beq i id with
      | true => some (.normal, f, h)
      | false => some (.exit i, f, h)
    | r => r
  | .loop c, f, h => iter (exec call n c) n f h
  | .exit id, f, h => some (.exit id, f, h)
  | .ret, f, h => some (.ret, f, h)

/-! the same by recursors: quicker to reduce -/
def runOpsK (call : CallFn) (l : List AOper) : Fr → AHeap → Option (Fr × AHeap) :=
  List.rec (motive := fun _ => Fr → AHeap → Option (Fr × AHeap)) (fun f h => some (f, h))
    (fun o _ ih f h => Option.rec (motive := fun _ => Option (Fr × AHeap)) none (fun p => Prod.rec (motive := fun _ => Option (Fr × AHeap)) (fun v h => ih (putDst o f v) h) p) (valOper P I call o f h)) l

theorem runOpsK_eq (call : CallFn) : ∀ (l : List AOper) (f : Fr) (h : AHeap), runOpsK P I call l f h = runOps P I call l f h
  | [], _, _ => rfl
  | o :: r, f, h => by
    show (Option.rec (motive := fun _ => Option (Fr × AHeap)) none (fun p => Prod.rec (motive := fun _ => Option (Fr × AHeap)) (fun v h => runOpsK P I call r (putDst o f v) h) p) (valOper P I call o f h)) = _
    simp only [runOps, runOper]
    cases hv : valOper P I call o f h with
    | none => rfl
    | some p => obtain ⟨v, h1⟩ := p; exact runOpsK_eq call r _ _

def thenK (k : Fr → AHeap → Option (Ex × Fr × AHeap)) (r : Option (Ex × Fr × AHeap)) : Option (Ex × Fr × AHeap) :=
  Option.rec (motive := fun _ => Option (Ex × Fr × AHeap)) none (fun p => Prod.rec (motive := fun _ => Option (Ex × Fr × AHeap)) (fun x q => Ex.rec (motive := fun _ => Option (Ex × Fr × AHeap)) (Prod.rec (motive := fun _ => Option (Ex × Fr × AHeap)) (fun f h => k f h) q) (fun id => some (.exit id, q)) (some (.ret, q)) x) p) r

def execK (call : CallFn) (n : Nat) (c : ACode) : Fr → AHeap → Option (Ex × Fr × AHeap) :=
  ACode.rec (motive := fun _ => Fr → AHeap → Option (Ex × Fr × AHeap))
    (fun f h => some (.normal, f, h))
    (fun ops f h => Option.rec (motive := fun _ => Option (Ex × Fr × AHeap)) none (fun p => Prod.rec (motive := fun _ => Option (Ex × Fr × AHeap)) (fun f h => some (.normal, f, h)) p) (runOpsK P I call ops f h))
    (fun ops info m f h => exec P I call n (.draw ops info m) f h)
    (fun _ _ iha ihb f h => thenK ihb (iha f h))
    (fun c _ _ iht ihe f h => match c.ev f with
      | .bool b => Bool.rec (motive := fun _ => Option (Ex × Fr × AHeap)) (ihe f h) (iht f h) b
      | _ => none)
    (fun id _ ih f h => match ih f h with
      | some (.exit i, f, h) => match Nat.beq i id with
        | true => some (.normal, f, h)
        | false => some (.exit i, f, h)
      | r => r)
    (fun _ ih f h => iter ih n f h)
    (fun id f h => some (.exit id, f, h))
    (fun f h => some (.ret, f, h))
    c

theorem execK_eq (call : CallFn) (n : Nat) : ∀ (c : ACode), execK P I call n c = exec P I call n c := by
  intro c
  induction c with
  | skip => rfl
  | region ops =>
    funext f h
    show (Option.rec (motive := fun _ => Option (Ex × Fr × AHeap)) none (fun p => Prod.rec (motive := fun _ => Option (Ex × Fr × AHeap)) (fun f h => some (.normal, f, h)) p) (runOpsK P I call ops f h)) = _
    rw [runOpsK_eq]
    simp only [exec]
    cases runOps P I call ops f h with
    | none => rfl
    | some p => rfl
  | draw ops info m => rfl
  | seq a b iha ihb =>
    funext f h
    show thenK (execK P I call n b) (execK P I call n a f h) = _
    rw [iha, ihb]
    simp only [exec]
    cases exec P I call n a f h with
    | none => rfl
    | some p => obtain ⟨x, f1, h1⟩ := p; cases x <;> rfl
  | cond c t e iht ihe =>
    funext f h
    show (match c.ev f with
      | .bool b => Bool.rec (motive := fun _ => Option (Ex × Fr × AHeap)) (execK P I call n e f h) (execK P I call n t f h) b
      | _ => none) = _
    rw [iht, ihe]
    simp only [exec]
    cases c.ev f with
    | bool b => cases b <;> rfl
    | _ => rfl
  | block id c ih =>
    funext f h
    show (match execK P I call n c f h with
      | some (.exit i, f, h) => match Nat.beq i id with
        | true => some (Ex.normal, f, h)
        | false => some (.exit i, f, h)
      | r => r) = _
    rw [ih]
    simp only [exec]
  | loop c ih =>
    funext f h
    show iter (execK P I call n c) n f h = _
    rw [ih]
    simp only [exec]
  | exit id => rfl
  | ret => rfl

def putArgs : Nat → List AVal → Fr → Fr
  | _, [], f => f
  | i, v :: r, f => putArgs (i + 1) r (f.put i v)

def resOf (f : Fr) (h : AHeap) : ARes → Option AVal
  | .tmp t => some (f.get t)
  | .cell1 t => match f.get t with
    | .ptr l o => rd I h l o
    | _ => none
  | .cellN t n => match f.get t with
    | .ptr l o => (rds I h l o n).map .agg
    | _ => none

def ressOf (f : Fr) (h : AHeap) : List ARes → Option (List AVal)
  | [] => some []
  | r :: rs => match resOf I f h r, ressOf f h rs with
    | some v, some vs => some (v :: vs)
    | _, _ => none

def oneOrTuple : List AVal → AVal
  | [v] => v
  | vs => .tuple vs

/-- A function, or a contract that stands in its place. -/
inductive AFn where
  | code (f : AFunc)
  | prim (g : List AVal → AHeap → Option (AVal × AHeap))

def callF (F : Nat → Option AFn) : Nat → CallFn
  | 0, _, _, _ => none
  | n + 1, g, args, h => match F g with
    | none => none
    | some (.prim p) => p args h
    | some (.code fn) => match Nat.ble args.length fn.ntmps with
      | false => none
      | true => match execK P I (callF F n) n fn.body (putArgs 0 args .nil) h with
        | some (.exit _, _, _) => none
        | some (_, f, h) => match ressOf I f h fn.results with
          | some vs => some (oneOrTuple vs, h)
          | none => none
        | none => none
end

end

end Go.AM
