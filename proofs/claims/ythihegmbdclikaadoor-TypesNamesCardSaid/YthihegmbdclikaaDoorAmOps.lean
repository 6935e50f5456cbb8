/- AM, part 3: operations with their types resolved, what they compute. (definitions alone) -/
import Derived.Test.YthihegmbdclikaaDoorAmMem
namespace Go.AM
noncomputable section
open Go.RowKit

inductive AOpd where
  | tmp (t : Nat)
  | val (v : AVal)
  deriving Inhabited

def AOpd.ev (f : Fr) : AOpd → AVal
  | .tmp t => f.get t
  | .val v => v

/-- A type of one cell that is compared by what it holds. -/
inductive ST where
  | b | i | s
  deriving DecidableEq, Inhabited

/-- By what two values of a type are compared. -/
inductive EqK where
  | bool | ptr | slice | func | map | iface
  | struct (ks : List ST)
  deriving DecidableEq, Inhabited

/-- Operations that make memory and read none. -/
inductive MOp where
  | alloc (z : List AVal)
  | box (x : AOpd)
  | buildSlice (z : List AVal) (len : Nat) (ps : List (Nat × Nat × AOpd))
  | makeSlice (z : List AVal) (bytes : Nat) (l c : AOpd)
  deriving Inhabited

inductive AOp where
  | move (x : AOpd)
  | pick (c a b : AOpd)
  | alloc (z : List AVal)
  | box (x : AOpd)
  | build (z : List AVal) (ps : List (Nat × Nat × AOpd))
  | buildSlice (z : List AVal) (len : Nat) (ps : List (Nat × Nat × AOpd))
  | load1 (a : AOpd)
  | loadN (n : Nat) (a : AOpd)
  | store (n : Nat) (a x : AOpd)
  | nilCheck (x : AOpd)
  | bin (op : BinOp) (x y : AOpd)
  | eq (neg : Bool) (ek : EqK) (c : Bool) (x y : AOpd)
  | un (op : UnOp) (x : AOpd)
  | toInt (k : IntKind) (x : AOpd)
  | toBytes (x : AOpd)
  | toStr (x : AOpd)
  | asStr (x : AOpd)
  | iface (t : TypeId) (x : AOpd)
  | mkFunc (fn : Fn) (first captured : List AOpd)
  | makeSlice (z : List AVal) (bytes : Nat) (l c : AOpd)
  | sliceS (sz : Nat) (x : AOpd) (lo hi mx : Option AOpd)
  | sliceStr (x : AOpd) (lo hi : Option AOpd)
  | sliceArr (n sz : Nat) (x : AOpd) (lo hi mx : Option AOpd)
  | fieldAddr (off : Nat) (x : AOpd)
  | field1 (off : Nat) (x : AOpd)
  | fieldN (off n : Nat) (x : AOpd)
  | indexAddr (sz : Nat) (x i : AOpd)
  | indexAddrArr (n sz : Nat) (x i : AOpd)
  | indexStr (x i : AOpd)
  | index1 (n : Nat) (x i : AOpd)
  | indexN (n sz : Nat) (x i : AOpd)
  | extract (x : AOpd) (i : Nat)
  | assertI (asserted : TypeId) (z : AVal) (ok : Bool) (x : AOpd)
  | assertT (asserted : TypeId) (z : AVal) (ok : Bool) (x : AOpd)
  | lenStr (x : AOpd)
  | lenSl (x : AOpd)
  | minmax (mx : Bool) (xs : List AOpd)
  | append (sz bytes : Nat) (x y : AOpd)
  | call (f : Nat) (args : List AOpd)
  | callv (x : AOpd) (args : List AOpd)
  | invoke (x : AOpd) (name : String) (args : List AOpd)
  | resv (k : Nat) (m : MOp)
  deriving Inhabited

structure AOper where
  dst : Option Nat
  op : AOp
  guard : Option (Nat × Bool)
  deriving Inhabited

inductive ACode where
  | skip
  | region (ops : List AOper)
  | draw (ops : List AOper) (info : List (Bool × List Nat)) (m : Nat)
  | seq (a b : ACode)
  | cond (c : AOpd) (t e : ACode)
  | block (id : Nat) (c : ACode)
  | loop (c : ACode)
  | exit (id : Nat)
  | ret
  deriving Inhabited

inductive ARes where
  | tmp (t : Nat)
  | cell1 (t : Nat)
  | cellN (t n : Nat)
  deriving Inhabited

structure AFunc where
  ntmps : Nat
  nargs : Nat
  results : List ARes
  body : ACode
  deriving Inhabited

/-! ### pure parts -/
def natLess : List Nat → List Nat → Bool
  | _, [] => false
  | [], _ :: _ => true
  | a :: x, b :: y => Nat.blt a b || (Nat.beq a b && natLess x y)

def natsEq : List Nat → List Nat → Bool
  | [], [] => true
  | a :: x, b :: y => Nat.beq a b && natsEq x y
  | _, _ => false

def ltI : Int → Int → Bool
  | .ofNat a, .ofNat b => Nat.blt a b
  | .negSucc _, .ofNat _ => true
  | .ofNat _, .negSucc _ => false
  | .negSucc a, .negSucc b => Nat.blt b a
def eqI : Int → Int → Bool
  | .ofNat a, .ofNat b => Nat.beq a b
  | .negSucc a, .negSucc b => Nat.beq a b
  | _, _ => false
theorem ltI_spec (a b : Int) : ltI a b = decide (a < b) := by
  cases a <;> cases b <;> simp only [ltI]
  · rename_i x y
    rw [Bool.eq_iff_iff]
    simp only [Nat.blt, Nat.ble_eq, decide_eq_true_eq, Int.ofNat_eq_natCast, Int.ofNat_lt]
    omega
  · rename_i x y
    symm; rw [decide_eq_false_iff_not]; simp only [Int.ofNat_eq_natCast, Int.negSucc_eq]; omega
  · rename_i x y
    symm; rw [decide_eq_true_eq]; simp only [Int.ofNat_eq_natCast, Int.negSucc_eq]; omega
  · rename_i x y
    rw [Bool.eq_iff_iff]
    simp only [Nat.blt, Nat.ble_eq, decide_eq_true_eq, Int.negSucc_eq]
    omega
theorem eqI_spec (a b : Int) : eqI a b = (a == b) := by
  cases a <;> cases b <;> simp only [eqI] <;> rw [Bool.eq_iff_iff] <;> simp <;> omega

def ibin (op : BinOp) (k : IntKind) (a b : Int) : Option AVal :=
  match op with
  | .add => some (.int k (k.wrap (a + b)))
  | .sub => some (.int k (k.wrap (a - b)))
  | .mul => some (.int k (k.wrap (a * b)))
  | .quo => if b = 0 then none else some (.int k (k.wrap (a.tdiv b)))
  | .rem => if b = 0 then none else some (.int k (a.tmod b))
  | .and => some (.int k (k.wrap (BitVec.ofInt k.bits a &&& BitVec.ofInt k.bits b).toNat))
  | .or => some (.int k (k.wrap (BitVec.ofInt k.bits a ||| BitVec.ofInt k.bits b).toNat))
  | .xor => some (.int k (k.wrap (BitVec.ofInt k.bits a ^^^ BitVec.ofInt k.bits b).toNat))
  | .andNot => some (.int k (k.wrap (BitVec.ofInt k.bits a &&& ~~~ BitVec.ofInt k.bits b).toNat))
  | .eql => some (.bool (eqI a b))
  | .neq => some (.bool (!eqI a b))
  | .lss => some (.bool (ltI a b))
  | .leq => some (.bool (!ltI b a))
  | .gtr => some (.bool (ltI b a))
  | .geq => some (.bool (!ltI a b))
  | .shl | .shr => none

def ishift (op : BinOp) (k : IntKind) (x y : Int) : Option AVal :=
  if y < 0 then none else
  match op with
  | .shl => some (.int k (k.wrap (x * 2 ^ (min y.toNat k.bits))))
  | .shr => some (.int k (x.fdiv (2 ^ (min y.toNat k.bits))))
  | _ => none

def sbin (op : BinOp) (x y : List Nat) : Option AVal :=
  match op with
  | .add => match Nat.ble (x.length + y.length) 140737488351232 with
    | true => some (.str (x ++ y))
    | false => none
  | .eql => some (.bool (natsEq x y))
  | .neq => some (.bool (!natsEq x y))
  | .lss => some (.bool (natLess x y))
  | .leq => some (.bool (natLess x y || natsEq x y))
  | .gtr => some (.bool (!(natLess x y || natsEq x y)))
  | .geq => some (.bool (!natLess x y))
  | _ => none

/-- Numbers from without, in sums. -/
def asLin : AVal → Option (List Int × Int)
  | .lin cs c => some (cs, c)
  | .int .i64 a => match eqI (IntKind.i64.wrap a) a with
    | true => some ([], a)
    | false => none
  | _ => none
def addL : List Int → List Int → List Int
  | [], b => b
  | a, [] => a
  | x :: a, y :: b => (x + y) :: addL a b
def intsEq : List Int → List Int → Bool
  | [], [] => true
  | a :: x, b :: y => eqI a b && intsEq x y
  | _, _ => false
def lbin (op : BinOp) (x y : AVal) : Option AVal :=
  match asLin x, asLin y with
  | some (cs, c), some (ds, d) => match op with
    | .add => some (.lin (addL cs ds) (c + d))
    | .mul => match ds with
      | [] => some (.lin (cs.map (· * d)) (c * d))
      | _ => none
    | .eql => match intsEq cs ds && eqI c d with
      | true => some (.bool true)
      | false => none
    | .neq => match intsEq cs ds && eqI c d with
      | true => some (.bool false)
      | false => none
    | _ => none
  | _, _ => none

def abin (op : BinOp) (x y : AVal) : Option AVal :=
  match x, y with
  | .int k a, .int k' b =>
    match op with
    | .shl | .shr => ishift op k a b
    | _ => if k = k' then ibin op k a b else none
  | .str a, .str b => sbin op a b
  | x, y => lbin op x y

def Loc.eqb : Loc → Loc → Bool
  | .inp a, .inp b => Nat.beq a b
  | .own a, .own b => Nat.beq a b
  | _, _ => false

/-- Are two blocks surely apart for '=='? -/
def apartB (h : AHeap) : Loc → Loc → Bool
  | .own a, .own b => match h.get a, h.get b with
    | some x, some y => x.plain && y.plain
    | _, _ => false
  | _, _ => false

def scalarEq : ST → AVal → AVal → Option Bool
  | .i, .int k a, .int k' b => if k = k' then some (a == b) else none
  | .b, .bool a, .bool b => some (a == b)
  | .s, .str a, .str b => some (natsEq a b)
  | _, _, _ => none

def scalarsEq : List ST → List AVal → List AVal → Option Bool
  | [], [], [] => some true
  | k :: ks, a :: x, b :: y => match scalarEq k a b with
    | none => none
    | some false => some false
    | some true => scalarsEq ks x y
  | _, _, _ => none

def Cap.eqb : Cap → Cap → Bool
  | .known a, .known b => Nat.beq a b
  | .grown a, .grown b => Nat.beq a b
  | _, _ => false

def Fn.eqb : Fn → Fn → Bool
  | .func a, .func b => Nat.beq a b
  | _, _ => false

mutual
def AVal.eqb : AVal → AVal → Bool
  | .bool a, .bool b => a == b
  | .int k a, .int k' b => decide (k = k') && decide (a = b)
  | .str a, .str b => natsEq a b
  | .nilp, .nilp => true
  | .ptr l o, .ptr l' o' => l.eqb l' && Nat.beq o o'
  | .nils, .nils => true
  | .sl l o n c, .sl l' o' n' c' => l.eqb l' && Nat.beq o o' && Nat.beq n n' && c.eqb c'
  | .nilf, .nilf => true
  | .func f a b, .func f' a' b' => Fn.eqb f f' && AVal.eqbs a a' && AVal.eqbs b b'
  | .nili, .nili => true
  | .iface t v, .iface t' v' => Nat.beq t t' && AVal.eqb v v'
  | .agg a, .agg b => AVal.eqbs a b
  | .tuple a, .tuple b => AVal.eqbs a b
  | .nilm, .nilm => true
  | .lin cs c, .lin ds d => intsEq cs ds && eqI c d
  | _, _ => false
def AVal.eqbs : List AVal → List AVal → Bool
  | [], [] => true
  | a :: x, b :: y => AVal.eqb a b && AVal.eqbs x y
  | _, _ => false
end

/-- Is a type a pointer's whose element has cells, and can it be compared? -/
def ptrTy (P : Program) (t : TypeId) : Bool :=
  match P.underlying t, P.info? t with
  | some (.pointer e), some i => i.comparable && (match P.info? e with | some j => decide (j.size ≠ 0) | none => false)
  | _, _ => false

def ptrEq (h : AHeap) : AVal → AVal → Option Bool
  | .nilp, .nilp => some true
  | .nilp, .ptr _ _ => some false
  | .ptr _ _, .nilp => some false
  | .ptr l o, .ptr l' o' => match l.eqb l' with
    | true => some (Nat.beq o o')
    | false => match apartB h l l' with
      | true => some false
      | false => none
  | _, _ => none

def boolEq : AVal → AVal → Option Bool
  | .bool a, .bool b => some (a == b)
  | _, _ => none

def nilEqS : AVal → AVal → Option Bool
  | .nils, .nils => some true
  | .nils, .sl _ _ _ _ => some false
  | .sl _ _ _ _, .nils => some false
  | _, _ => none

def nilEqF : AVal → AVal → Option Bool
  | .nilf, .nilf => some true
  | .nilf, .func _ _ _ => some false
  | .func _ _ _, .nilf => some false
  | _, _ => none

def ifaceEq (P : Program) (h : AHeap) (c : Bool) : AVal → AVal → Option Bool
  | .nili, .nili => if c then some true else none
  | .nili, .iface _ _ => some false
  | .iface _ _, .nili => some false
  | .iface t a, .iface t' b => if t ≠ t' then some false else if ptrTy P t then ptrEq h a b else none
  | _, _ => none

def structEq (ks : List ST) : AVal → AVal → Option Bool
  | .agg a, .agg b => scalarsEq ks a b
  | _, _ => none

def aeq (P : Program) (h : AHeap) (ek : EqK) (c : Bool) (x y : AVal) : Option Bool :=
  match ek with
  | .bool => boolEq x y
  | .ptr => ptrEq h x y
  | .slice => nilEqS x y
  | .func => nilEqF x y
  | .iface => ifaceEq P h c x y
  | .struct ks => structEq ks x y
  | .map => none

def aun (op : UnOp) (x : AVal) : Option AVal :=
  match op, x with
  | .neg, .int k n => some (.int k (k.wrap (0 - n)))
  | .xor, .int k n => some (.int k (k.wrap (BitVec.ofInt k.bits (if k.signed then -1 else k.max) ^^^ BitVec.ofInt k.bits n).toNat))
  | .not, .bool b => some (.bool !b)
  | _, _ => none

/-- 'n' zero values, cell by cell. -/
def zerosFrom (z : List AVal) (i : Nat) : Nat → List AVal
  | 0 => []
  | n + 1 => z.getD (i % z.length) .nilp :: zerosFrom z (i + 1) n

def zeros (z : List AVal) (n : Nat) : List AVal := zerosFrom z 0 n

def fillA (f : Fr) : List AVal → List (Nat × Nat × AOpd) → Option (List AVal)
  | cs, [] => some cs
  | cs, (off, sz, x) :: r =>
    let v := (x.ev f).cells
    match Nat.beq v.length sz && Nat.ble (off + v.length) cs.length with
    | true => fillA f (setR cs off v) r
    | false => none

def asNat : AVal → Option Nat
  | .int _ (.ofNat n) => some n
  | _ => none

def optNat (f : Fr) (d : Nat) : Option AOpd → Option Nat
  | none => some d
  | some x => asNat (x.ev f)

def callOf : Fn → Option Nat
  | .func f => some f
  | _ => none

/-- The function of a method of a value of a type, where it is called as it stands. -/
def methodOf (P : Program) (t : TypeId) (name : String) : Option Nat :=
  match P.info? t with
  | none => none
  | some i => match i.methods.find? (·.name == name) with
    | none => none
    | some m => match m.path.toList, m.func, P.underlying t with
      | [], some (f, true), some (.pointer _) => some f
      | _, _, _ => none

def implB (P : Program) (asserted t : TypeId) : Option Bool :=
  match P.underlying asserted, P.info? t with
  | some (.interface want), some i => some (Instr.missingMethod want i.methods).isNone
  | _, _ => none

/-- A capacity behind a cut. -/
def capMinus (c : Cap) (l : Nat) : Cap :=
  match c with
  | .known c => .known (c - l)
  | .grown sz => .grown sz

/-- Is an index surely within a capacity; may a slice of elements of 'sz' cells be cut there? -/
def capHas (c : Cap) (sz len m : Nat) : Bool :=
  match c with
  | .known c => Nat.ble m c
  | .grown s => Nat.ble m len && Nat.beq s sz

def sliceOf (f : Fr) (sz : Nat) (x : AVal) (lo hi mx : Option AOpd) : Option AVal :=
  match x with
  | .nils => match optNat f 0 lo, optNat f 0 hi, optNat f 0 mx, mx.isNone || hi.isSome with
    | some 0, some 0, some 0, true => some .nils
    | _, _, _, _ => none
  | .sl l o len cap =>
    match optNat f 0 lo, optNat f len hi with
    | some a, some b =>
      match mx with
      | none => match Nat.ble a b && capHas cap sz len b with
        | true => some (.sl l (o + a * sz) (b - a) (capMinus cap a))
        | false => none
      | some m => match asNat (m.ev f), hi with
        | some m, some _ => match Nat.ble a b && Nat.ble b m && capHas cap sz len m with
          | true => some (.sl l (o + a * sz) (b - a) (.known (m - a)))
          | false => none
        | _, _ => none
    | _, _ => none
  | _ => none

def minInts (mx : Bool) : IntKind → Int → List AVal → Option AVal
  | k, a, [] => some (.int k a)
  | k, a, .int k' b :: r => if k = k' then minInts mx k (if mx then (if b > a then b else a) else (if b < a then b else a)) r else none
  | _, _, _ => none

/-- What an append reads of its second argument. -/
def srcCells (I : Inp) (h : AHeap) (sz : Nat) : AVal → Option (Nat × List AVal)
  | .nils => some (0, [])
  | .sl l o len _ => match rds I h l o (len * sz) with
    | some cs => some (len, cs)
    | none => none
  | .str s => match Nat.beq sz 1 with
    | true => some (s.length, s.map fun b : Nat => .int .u8 (.ofNat b))
    | false => none
  | _ => none

def bigRoom : Nat := 140737488355328

def appendTo (I : Inp) (h : AHeap) (sz bytes : Nat) (x y : AVal) : Option (AVal × AHeap) :=
  match srcCells I h sz y with
  | none => none
  | some (n, news) =>
    match n with
    | 0 => match x with
      | .nils | .sl _ _ _ _ => some (x, h)
      | _ => none
    | n + 1 =>
      match news.all AVal.one with
      | false => none
      | true =>
      match x with
      | .nils => match h.room && Nat.ble ((n + 1) * bytes) bigRoom && Nat.ble (n + 1) bigRoom with
        | true => some (.sl (.own h.next) 0 (n + 1) (.grown sz), h.alloc ⟨news, true⟩)
        | false => none
      | .sl l o len cap =>
        match Nat.ble ((len + (n + 1)) * bytes) bigRoom && Nat.ble (len + (n + 1)) bigRoom with
        | false => none
        | true =>
        match cap with
        | .known c => match Nat.ble (len + (n + 1)) c with
          | true => match l with
            | .own k => match h.get k with
              | some b => match b.wr (o + len * sz) news with
                | some b' => some (.sl l o (len + (n + 1)) cap, h.set k b')
                | none => none
              | none => none
            | .inp _ => none
          | false => match rds I h l o (len * sz), h.room with
            | some olds, true => match olds.all AVal.one with
              | true => some (.sl (.own h.next) 0 (len + (n + 1)) (.grown sz), h.alloc ⟨olds ++ news, true⟩)
              | false => none
            | _, _ => none
        | .grown s => match l with
          | .inp _ => none
          | .own k => match h.get k with
            | none => none
            | some b => match Nat.beq s sz && Nat.ble (o + len * sz) b.cells.length with
              | false => none
              | true => match Nat.ble (o + len * sz + news.length) b.cells.length with
                | true => match b.wr (o + len * sz) news with
                  | some b' => some (.sl l o (len + (n + 1)) cap, h.set k b')
                  | none => none
                | false => match h.room && ((b.cells.drop o).take (len * sz)).all AVal.one with
                  | true => some (.sl (.own h.next) 0 (len + (n + 1)) (.grown sz), (h.kill k).alloc ⟨(b.cells.drop o).take (len * sz) ++ news, b.plain⟩)
                  | false => none
      | _ => none

/-! ### what an operation does, but for calls -/
def boolOf : AVal → Option Bool
  | .bool b => some b
  | _ => none

/-- The value and the cells, at a number that is kept for it. -/
def MOp.made (f : Fr) (k : Nat) : MOp → Option (AVal × List AVal)
  | .alloc z => some (.ptr (.own k) 0, z)
  | .box x => some (.ptr (.own k) 0, (x.ev f).cells)
  | .buildSlice z n ps => match fillA f (zeros z (n * z.length)) ps with
    | some cs => some (.sl (.own k) 0 n (.known n), cs)
    | none => none
  | .makeSlice z bytes l c => match asNat (l.ev f), asNat (c.ev f) with
    | some l, some c => match Nat.ble l c && Nat.ble (bytes * c) 140737488355328 && Nat.ble c 140737488355328 with
      | true => some (.sl (.own k) 0 l (.known c), zeros z (c * z.length))
      | false => none
    | _, _ => none

def AOp.step (P : Program) (I : Inp) (f : Fr) (h : AHeap) : AOp → Option (AVal × AHeap)
  | .move x => some (x.ev f, h)
  | .pick c a b => match c.ev f with
    | .bool true => some (a.ev f, h)
    | .bool false => some (b.ev f, h)
    | _ => none
  | .alloc z => match h.room with
    | true => some (.ptr (.own h.next) 0, h.alloc ⟨z, true⟩)
    | false => none
  | .box x => match h.room with
    | true => some (.ptr (.own h.next) 0, h.alloc ⟨(x.ev f).cells, true⟩)
    | false => none
  | .build z ps => match fillA f z ps with
    | some cs => some (.agg cs, h)
    | none => none
  | .buildSlice z n ps => match fillA f (zeros z (n * z.length)) ps, h.room with
    | some cs, true => some (.sl (.own h.next) 0 n (.known n), h.alloc ⟨cs, true⟩)
    | _, _ => none
  | .load1 a => match a.ev f with
    | .ptr l o => match rd I h l o with
      | some v => some (v, h)
      | none => none
    | _ => none
  | .loadN n a => match a.ev f with
    | .ptr l o => match rds I h l o n with
      | some cs => some (.agg cs, h)
      | none => none
    | _ => none
  | .store n a x => match a.ev f with
    | .ptr (.own k) o => match h.get k, Nat.beq (x.ev f).cells.length n with
      | some b, true => match b.wr o (x.ev f).cells with
        | some b' => some (aundef, h.set k b')
        | none => none
      | _, _ => none
    | _ => none
  | .nilCheck x => match x.ev f with
    | .ptr l o => some (.ptr l o, h)
    | .sl l o n c => some (.sl l o n c, h)
    | .func (.func g) a b => some (.func (.func g) a b, h)
    | _ => none
  | .bin op x y => match abin op (x.ev f) (y.ev f) with
    | some v => some (v, h)
    | none => none
  | .eq neg ek c x y => match aeq P h ek c (x.ev f) (y.ev f) with
    | some b => some (.bool (if neg then !b else b), h)
    | none => none
  | .un op x => match aun op (x.ev f) with
    | some v => some (v, h)
    | none => none
  | .toInt k x => match x.ev f with
    | .int _ n => some (.int k (k.wrap n), h)
    | _ => none
  | .toBytes x => match x.ev f, h.room with
    | .str s, true => some (.sl (.own h.next) 0 s.length (.grown 1), h.alloc ⟨s.map fun b : Nat => .int .u8 (.ofNat b), false⟩)
    | _, _ => none
  | .toStr x => match x.ev f with
    | .nils => some (.str [], h)
    | .sl l o n _ => match rds I h l o n with
      | some cs => match cs.mapM (m := Option) (fun | .int .u8 (.ofNat b) => (match Nat.blt b 256 with | true => some b | false => none) | _ => none) with
        | some bs => some (.str bs, h)
        | none => none
      | none => none
    | _ => none
  | .asStr x => match x.ev f with
    | .str s => some (.str s, h)
    | _ => none
  | .iface t x => some (.iface t (x.ev f), h)
  | .mkFunc fn a b => some (.func fn (a.map (·.ev f)) (b.map (·.ev f)), h)
  | .makeSlice z bytes l c => match asNat (l.ev f), asNat (c.ev f), h.room with
    | some l, some c, true => match Nat.ble l c && Nat.ble (bytes * c) 140737488355328 && Nat.ble c 140737488355328 with
      | true => some (.sl (.own h.next) 0 l (.known c), h.alloc ⟨zeros z (c * z.length), true⟩)
      | false => none
    | _, _, _ => none
  | .resv k m => match m.made f k with
    | some (v, cs) => some (v, h.set k ⟨cs, true⟩)
    | none => none
  | .sliceS sz x lo hi mx => match sliceOf f sz (x.ev f) lo hi mx with
    | some v => some (v, h)
    | none => none
  | .sliceStr x lo hi => match x.ev f with
    | .str s => match optNat f 0 lo, optNat f s.length hi with
      | some a, some b => match Nat.ble a b && Nat.ble b s.length with
        | true => some (.str ((s.drop a).take (b - a)), h)
        | false => none
      | _, _ => none
    | _ => none
  | .sliceArr n sz x lo hi mx => match x.ev f with
    | .ptr l o => match sliceOf f sz (.sl l o n (.known n)) lo hi mx with
      | some v => some (v, h)
      | none => none
    | _ => none
  | .fieldAddr off x => match x.ev f with
    | .ptr l o => some (.ptr l (o + off), h)
    | _ => none
  | .field1 off x => match x.ev f with
    | .agg cs => match cs[off]? with
      | some v => some (v, h)
      | none => none
    | _ => none
  | .fieldN off n x => match x.ev f with
    | .agg cs => match Nat.ble (off + n) cs.length with
      | true => some (.agg ((cs.drop off).take n), h)
      | false => none
    | _ => none
  | .indexAddr sz x i => match x.ev f, asNat (i.ev f) with
    | .sl l o n _, some j => match Nat.blt j n with
      | true => some (.ptr l (o + j * sz), h)
      | false => none
    | _, _ => none
  | .indexAddrArr n sz x i => match x.ev f, asNat (i.ev f) with
    | .ptr l o, some j => match Nat.blt j n with
      | true => some (.ptr l (o + j * sz), h)
      | false => none
    | _, _ => none
  | .indexStr x i => match x.ev f, asNat (i.ev f) with
    | .str s, some j => match s[j]? with
      | some b => some (.int .u8 b, h)
      | none => none
    | _, _ => none
  | .index1 n x i => match x.ev f, asNat (i.ev f) with
    | .agg cs, some j => match cs[j]?, Nat.blt j n with
      | some v, true => some (v, h)
      | _, _ => none
    | _, _ => none
  | .indexN n sz x i => match x.ev f, asNat (i.ev f) with
    | .agg cs, some j => match Nat.blt j n && Nat.ble (j * sz + sz) cs.length with
      | true => some (.agg ((cs.drop (j * sz)).take sz), h)
      | _ => none
    | _, _ => none
  | .extract x i => match x.ev f with
    | .tuple vs => match vs[i]? with
      | some v => some (v, h)
      | none => none
    | _ => none
  | .assertI t z ok x => match x.ev f with
    | .nili => if ok then some (.tuple [z, .bool false], h) else none
    | .iface u v => match implB P t u with
      | some true => some (if ok then .tuple [.iface u v, .bool true] else .iface u v, h)
      | some false => if ok then some (.tuple [z, .bool false], h) else none
      | none => none
    | _ => none
  | .assertT t z ok x => match x.ev f with
    | .nili => if ok then some (.tuple [z, .bool false], h) else none
    | .iface u v => if u = t then some (if ok then .tuple [v, .bool true] else v, h) else if ok then some (.tuple [z, .bool false], h) else none
    | _ => none
  | .lenStr x => match x.ev f with
    | .str s => some (.int .i64 s.length, h)
    | _ => none
  | .lenSl x => match x.ev f with
    | .nils => some (.int .i64 0, h)
    | .sl _ _ n _ => some (.int .i64 n, h)
    | _ => none
  | .minmax mx xs => match xs.map (fun x : AOpd => x.ev f) with
    | AVal.int k a :: r => match minInts mx k a r with
      | some v => some (v, h)
      | none => none
    | _ => none
  | .append sz bytes x y => appendTo I h sz bytes (x.ev f) (y.ev f)
  | .call _ _ | .callv _ _ | .invoke _ _ _ => none

/-! the same, each operation by itself: quicker to reduce -/
def stepK_move (f : Fr) (h : AHeap) (x : AOpd) : Option (AVal × AHeap) :=
  some (x.ev f, h)
def stepK_pick (f : Fr) (h : AHeap) (c : AOpd) (a : AOpd) (b : AOpd) : Option (AVal × AHeap) :=
  match c.ev f with
  | .bool true => some (a.ev f, h)
  | .bool false => some (b.ev f, h)
  | _ => none
def stepK_alloc (h : AHeap) (z : List AVal) : Option (AVal × AHeap) :=
  match h.room with
  | true => some (.ptr (.own h.next) 0, h.alloc ⟨z, true⟩)
  | false => none
def stepK_box (f : Fr) (h : AHeap) (x : AOpd) : Option (AVal × AHeap) :=
  match h.room with
  | true => some (.ptr (.own h.next) 0, h.alloc ⟨(x.ev f).cells, true⟩)
  | false => none
def stepK_build (f : Fr) (h : AHeap) (z : List AVal) (ps : List (Nat × Nat × AOpd)) : Option (AVal × AHeap) :=
  match fillA f z ps with
  | some cs => some (.agg cs, h)
  | none => none
def stepK_buildSlice (f : Fr) (h : AHeap) (z : List AVal) (n : Nat) (ps : List (Nat × Nat × AOpd)) : Option (AVal × AHeap) :=
  match fillA f (zeros z (n * z.length)) ps, h.room with
  | some cs, true => some (.sl (.own h.next) 0 n (.known n), h.alloc ⟨cs, true⟩)
  | _, _ => none
def stepK_load1 (I : Inp) (f : Fr) (h : AHeap) (a : AOpd) : Option (AVal × AHeap) :=
  match a.ev f with
  | .ptr l o => match rd I h l o with
    | some v => some (v, h)
    | none => none
  | _ => none
def stepK_loadN (I : Inp) (f : Fr) (h : AHeap) (n : Nat) (a : AOpd) : Option (AVal × AHeap) :=
  match a.ev f with
  | .ptr l o => match rds I h l o n with
    | some cs => some (.agg cs, h)
    | none => none
  | _ => none
def stepK_store (f : Fr) (h : AHeap) (n : Nat) (a : AOpd) (x : AOpd) : Option (AVal × AHeap) :=
  match a.ev f with
  | .ptr (.own k) o => match h.get k, Nat.beq (x.ev f).cells.length n with
    | some b, true => match b.wr o (x.ev f).cells with
      | some b' => some (aundef, h.set k b')
      | none => none
    | _, _ => none
  | _ => none
def stepK_nilCheck (f : Fr) (h : AHeap) (x : AOpd) : Option (AVal × AHeap) :=
  match x.ev f with
  | .ptr l o => some (.ptr l o, h)
  | .sl l o n c => some (.sl l o n c, h)
  | .func (.func g) a b => some (.func (.func g) a b, h)
  | _ => none
def stepK_bin (f : Fr) (h : AHeap) (op : BinOp) (x : AOpd) (y : AOpd) : Option (AVal × AHeap) :=
  match abin op (x.ev f) (y.ev f) with
  | some v => some (v, h)
  | none => none
def stepK_eq (P : Program) (f : Fr) (h : AHeap) (neg : Bool) (ek : EqK) (c : Bool) (x : AOpd) (y : AOpd) : Option (AVal × AHeap) :=
  match aeq P h ek c (x.ev f) (y.ev f) with
  | some b => some (.bool (if neg then !b else b), h)
  | none => none
def stepK_un (f : Fr) (h : AHeap) (op : UnOp) (x : AOpd) : Option (AVal × AHeap) :=
  match aun op (x.ev f) with
  | some v => some (v, h)
  | none => none
def stepK_toInt (f : Fr) (h : AHeap) (k : IntKind) (x : AOpd) : Option (AVal × AHeap) :=
  match x.ev f with
  | .int _ n => some (.int k (k.wrap n), h)
  | _ => none
def stepK_toBytes (f : Fr) (h : AHeap) (x : AOpd) : Option (AVal × AHeap) :=
  match x.ev f, h.room with
  | .str s, true => some (.sl (.own h.next) 0 s.length (.grown 1), h.alloc ⟨s.map fun b : Nat => .int .u8 (.ofNat b), false⟩)
  | _, _ => none
def stepK_toStr (I : Inp) (f : Fr) (h : AHeap) (x : AOpd) : Option (AVal × AHeap) :=
  match x.ev f with
  | .nils => some (.str [], h)
  | .sl l o n _ => match rds I h l o n with
    | some cs => match cs.mapM (m := Option) (fun | .int .u8 (.ofNat b) => (match Nat.blt b 256 with | true => some b | false => none) | _ => none) with
      | some bs => some (.str bs, h)
      | none => none
    | none => none
  | _ => none
def stepK_asStr (f : Fr) (h : AHeap) (x : AOpd) : Option (AVal × AHeap) :=
  match x.ev f with
  | .str s => some (.str s, h)
  | _ => none
def stepK_iface (f : Fr) (h : AHeap) (t : TypeId) (x : AOpd) : Option (AVal × AHeap) :=
  some (.iface t (x.ev f), h)
def stepK_mkFunc (f : Fr) (h : AHeap) (fn : Fn) (a : List AOpd) (b : List AOpd) : Option (AVal × AHeap) :=
  some (.func fn (a.map (·.ev f)) (b.map (·.ev f)), h)
def stepK_makeSlice (f : Fr) (h : AHeap) (z : List AVal) (bytes : Nat) (l : AOpd) (c : AOpd) : Option (AVal × AHeap) :=
  match asNat (l.ev f), asNat (c.ev f), h.room with
  | some l, some c, true => match Nat.ble l c && Nat.ble (bytes * c) 140737488355328 && Nat.ble c 140737488355328 with
    | true => some (.sl (.own h.next) 0 l (.known c), h.alloc ⟨zeros z (c * z.length), true⟩)
    | false => none
  | _, _, _ => none
def stepK_resv (f : Fr) (h : AHeap) (k : Nat) (m : MOp) : Option (AVal × AHeap) :=
  match m.made f k with
  | some (v, cs) => some (v, h.set k ⟨cs, true⟩)
  | none => none
def stepK_sliceS (f : Fr) (h : AHeap) (sz : Nat) (x : AOpd) (lo : Option AOpd) (hi : Option AOpd) (mx : Option AOpd) : Option (AVal × AHeap) :=
  match sliceOf f sz (x.ev f) lo hi mx with
  | some v => some (v, h)
  | none => none
def stepK_sliceStr (f : Fr) (h : AHeap) (x : AOpd) (lo : Option AOpd) (hi : Option AOpd) : Option (AVal × AHeap) :=
  match x.ev f with
  | .str s => match optNat f 0 lo, optNat f s.length hi with
    | some a, some b => match Nat.ble a b && Nat.ble b s.length with
      | true => some (.str ((s.drop a).take (b - a)), h)
      | false => none
    | _, _ => none
  | _ => none
def stepK_sliceArr (f : Fr) (h : AHeap) (n : Nat) (sz : Nat) (x : AOpd) (lo : Option AOpd) (hi : Option AOpd) (mx : Option AOpd) : Option (AVal × AHeap) :=
  match x.ev f with
  | .ptr l o => match sliceOf f sz (.sl l o n (.known n)) lo hi mx with
    | some v => some (v, h)
    | none => none
  | _ => none
def stepK_fieldAddr (f : Fr) (h : AHeap) (off : Nat) (x : AOpd) : Option (AVal × AHeap) :=
  match x.ev f with
  | .ptr l o => some (.ptr l (o + off), h)
  | _ => none
def stepK_field1 (f : Fr) (h : AHeap) (off : Nat) (x : AOpd) : Option (AVal × AHeap) :=
  match x.ev f with
  | .agg cs => match cs[off]? with
    | some v => some (v, h)
    | none => none
  | _ => none
def stepK_fieldN (f : Fr) (h : AHeap) (off : Nat) (n : Nat) (x : AOpd) : Option (AVal × AHeap) :=
  match x.ev f with
  | .agg cs => match Nat.ble (off + n) cs.length with
    | true => some (.agg ((cs.drop off).take n), h)
    | false => none
  | _ => none
def stepK_indexAddr (f : Fr) (h : AHeap) (sz : Nat) (x : AOpd) (i : AOpd) : Option (AVal × AHeap) :=
  match x.ev f, asNat (i.ev f) with
  | .sl l o n _, some j => match Nat.blt j n with
    | true => some (.ptr l (o + j * sz), h)
    | false => none
  | _, _ => none
def stepK_indexAddrArr (f : Fr) (h : AHeap) (n : Nat) (sz : Nat) (x : AOpd) (i : AOpd) : Option (AVal × AHeap) :=
  match x.ev f, asNat (i.ev f) with
  | .ptr l o, some j => match Nat.blt j n with
    | true => some (.ptr l (o + j * sz), h)
    | false => none
  | _, _ => none
def stepK_indexStr (f : Fr) (h : AHeap) (x : AOpd) (i : AOpd) : Option (AVal × AHeap) :=
  match x.ev f, asNat (i.ev f) with
  | .str s, some j => match s[j]? with
    | some b => some (.int .u8 b, h)
    | none => none
  | _, _ => none
def stepK_index1 (f : Fr) (h : AHeap) (n : Nat) (x : AOpd) (i : AOpd) : Option (AVal × AHeap) :=
  match x.ev f, asNat (i.ev f) with
  | .agg cs, some j => match cs[j]?, Nat.blt j n with
    | some v, true => some (v, h)
    | _, _ => none
  | _, _ => none
def stepK_indexN (f : Fr) (h : AHeap) (n : Nat) (sz : Nat) (x : AOpd) (i : AOpd) : Option (AVal × AHeap) :=
  match x.ev f, asNat (i.ev f) with
  | .agg cs, some j => match Nat.blt j n && Nat.ble (j * sz + sz) cs.length with
    | true => some (.agg ((cs.drop (j * sz)).take sz), h)
    | _ => none
  | _, _ => none
def stepK_extract (f : Fr) (h : AHeap) (x : AOpd) (i : Nat) : Option (AVal × AHeap) :=
  match x.ev f with
  | .tuple vs => match vs[i]? with
    | some v => some (v, h)
    | none => none
  | _ => none
def stepK_assertI (P : Program) (f : Fr) (h : AHeap) (t : TypeId) (z : AVal) (ok : Bool) (x : AOpd) : Option (AVal × AHeap) :=
  match x.ev f with
  | .nili => if ok then some (.tuple [z, .bool false], h) else none
  | .iface u v => match implB P t u with
    | some true => some (if ok then .tuple [.iface u v, .bool true] else .iface u v, h)
    | some false => if ok then some (.tuple [z, .bool false], h) else none
    | none => none
  | _ => none
def stepK_assertT (f : Fr) (h : AHeap) (t : TypeId) (z : AVal) (ok : Bool) (x : AOpd) : Option (AVal × AHeap) :=
  match x.ev f with
  | .nili => if ok then some (.tuple [z, .bool false], h) else none
  | .iface u v => if u = t then some (if ok then .tuple [v, .bool true] else v, h) else if ok then some (.tuple [z, .bool false], h) else none
  | _ => none
def stepK_lenStr (f : Fr) (h : AHeap) (x : AOpd) : Option (AVal × AHeap) :=
  match x.ev f with
  | .str s => some (.int .i64 s.length, h)
  | _ => none
def stepK_lenSl (f : Fr) (h : AHeap) (x : AOpd) : Option (AVal × AHeap) :=
  match x.ev f with
  | .nils => some (.int .i64 0, h)
  | .sl _ _ n _ => some (.int .i64 n, h)
  | _ => none
def stepK_minmax (f : Fr) (h : AHeap) (mx : Bool) (xs : List AOpd) : Option (AVal × AHeap) :=
  match xs.map (fun x : AOpd => x.ev f) with
  | AVal.int k a :: r => match minInts mx k a r with
    | some v => some (v, h)
    | none => none
  | _ => none
def stepK_append (I : Inp) (f : Fr) (h : AHeap) (sz : Nat) (bytes : Nat) (x : AOpd) (y : AOpd) : Option (AVal × AHeap) :=
  appendTo I h sz bytes (x.ev f) (y.ev f)

def AOp.stepK (P : Program) (I : Inp) (f : Fr) (h : AHeap) : AOp → Option (AVal × AHeap)
  | .move x => stepK_move f h x
  | .pick c a b => stepK_pick f h c a b
  | .alloc z => stepK_alloc h z
  | .box x => stepK_box f h x
  | .build z ps => stepK_build f h z ps
  | .buildSlice z n ps => stepK_buildSlice f h z n ps
  | .load1 a => stepK_load1 I f h a
  | .loadN n a => stepK_loadN I f h n a
  | .store n a x => stepK_store f h n a x
  | .nilCheck x => stepK_nilCheck f h x
  | .bin op x y => stepK_bin f h op x y
  | .eq neg ek c x y => stepK_eq P f h neg ek c x y
  | .un op x => stepK_un f h op x
  | .toInt k x => stepK_toInt f h k x
  | .toBytes x => stepK_toBytes f h x
  | .toStr x => stepK_toStr I f h x
  | .asStr x => stepK_asStr f h x
  | .iface t x => stepK_iface f h t x
  | .mkFunc fn a b => stepK_mkFunc f h fn a b
  | .makeSlice z bytes l c => stepK_makeSlice f h z bytes l c
  | .resv k m => stepK_resv f h k m
  | .sliceS sz x lo hi mx => stepK_sliceS f h sz x lo hi mx
  | .sliceStr x lo hi => stepK_sliceStr f h x lo hi
  | .sliceArr n sz x lo hi mx => stepK_sliceArr f h n sz x lo hi mx
  | .fieldAddr off x => stepK_fieldAddr f h off x
  | .field1 off x => stepK_field1 f h off x
  | .fieldN off n x => stepK_fieldN f h off n x
  | .indexAddr sz x i => stepK_indexAddr f h sz x i
  | .indexAddrArr n sz x i => stepK_indexAddrArr f h n sz x i
  | .indexStr x i => stepK_indexStr f h x i
  | .index1 n x i => stepK_index1 f h n x i
  | .indexN n sz x i => stepK_indexN f h n sz x i
  | .extract x i => stepK_extract f h x i
  | .assertI t z ok x => stepK_assertI P f h t z ok x
  | .assertT t z ok x => stepK_assertT f h t z ok x
  | .lenStr x => stepK_lenStr f h x
  | .lenSl x => stepK_lenSl f h x
  | .minmax mx xs => stepK_minmax f h mx xs
  | .append sz bytes x y => stepK_append I f h sz bytes x y
  | .call _ _ | .callv _ _ | .invoke _ _ _ => none

theorem AOp.stepK_eq (P : Program) (I : Inp) (f : Fr) (h : AHeap) (op : AOp) : op.stepK P I f h = op.step P I f h := by
  cases op <;> rfl

/-- The function that a call enters, and its arguments. -/
def AOp.target (P : Program) (f : Fr) : AOp → Option (Nat × List AVal)
  | .call g args => some (g, args.map (·.ev f))
  | .callv x args => match x.ev f with
    | .func (.func g) first captured => some (g, first ++ args.map (·.ev f) ++ captured)
    | _ => none
  | .invoke x name args => match x.ev f with
    | .iface t v => match methodOf P t name, v with
      | some g, .nilp => some (g, v :: args.map (·.ev f))
      | some g, .ptr _ _ => some (g, v :: args.map (·.ev f))
      | _, _ => none
    | _ => none
  | _ => none

end

end Go.AM
