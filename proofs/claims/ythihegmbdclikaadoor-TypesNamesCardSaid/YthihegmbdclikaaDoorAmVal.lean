/- AM, part 23: operations on values (no frame), code in continuation style with labels at its loops and joins; what it computes the abstract machine computes. Conditions: as each lemma says. -/
import Derived.Test.YthihegmbdclikaaDoorAmWp
namespace Go.AM
noncomputable section
open Go.RowKit

abbrev Rs := Option (AVal × AHeap)
/-- A frame, as a function. -/
abbrev Fun := Nat → AVal
def Fun.put (ρ : Fun) (d : Nat) (v : AVal) : Fun := fun n => Bool.rec (motive := fun _ => AVal) (ρ n) v (Nat.beq n d)
def AOpd.evV (ρ : Fun) : AOpd → AVal
  | .tmp t => ρ t
  | .val v => v


/-! ### quick lists: the kernel reduces recursors quickest -/
section
variable {α : Type}
def nthK (l : List α) : Nat → Option α :=
  List.rec (motive := fun _ => Nat → Option α) (fun _ => none) (fun a _ ih n => Nat.rec (motive := fun _ => Option α) (some a) (fun m _ => ih m) n) l
theorem nthK_eq : ∀ (l : List α) (n : Nat), nthK l n = l[n]?
  | [], _ => rfl
  | _ :: _, 0 => rfl
  | _ :: l, n + 1 => (nthK_eq l n).trans (by simp)
def someCons (a : α) (r : Option (List α)) : Option (List α) := Option.rec (motive := fun _ => Option (List α)) none (fun t => some (a :: t)) r
def takeK (n : Nat) : List α → Option (List α) :=
  Nat.rec (motive := fun _ => List α → Option (List α)) (fun _ => some []) (fun _ ih l => List.rec (motive := fun _ => Option (List α)) none (fun a r _ => someCons a (ih r)) l) n
def cutK (o n : Nat) : List α → Option (List α) :=
  Nat.rec (motive := fun _ => List α → Option (List α)) (fun l => takeK n l) (fun _ ih l => List.rec (motive := fun _ => Option (List α)) none (fun _ r _ => ih r) l) o
theorem takeK_eq : ∀ (n : Nat) (l : List α), takeK n l = match Nat.ble n l.length with | true => some (l.take n) | false => none
  | 0, l => by cases l <;> rfl
  | n + 1, [] => rfl
  | n + 1, a :: l => by
    show someCons a (takeK n l) = _
    rw [takeK_eq n l]
    have : Nat.ble (n + 1) (a :: l).length = Nat.ble n l.length := rfl
    rw [this]
    cases Nat.ble n l.length <;> rfl
theorem cutK_eq : ∀ (o n : Nat) (l : List α), cutK o n l = match Nat.ble (o + n) l.length with | true => some ((l.drop o).take n) | false => none
  | 0, n, l => by
    show takeK n l = _
    rw [takeK_eq, Nat.zero_add]; rfl
  | o + 1, n, [] => by
    show none = _
    rw [show o + 1 + n = (o + n) + 1 by omega]; rfl
  | o + 1, n, a :: l => by
    show cutK o n l = _
    rw [cutK_eq o n l, show o + 1 + n = (o + n) + 1 by omega]
    rfl
def overK (xs : List α) : List α → Option (List α) :=
  List.rec (motive := fun _ => List α → Option (List α)) (fun l => some l) (fun x _ ih l => List.rec (motive := fun _ => Option (List α)) none (fun _ r _ => someCons x (ih r)) l) xs
def setK (o : Nat) (xs : List α) : List α → Option (List α) :=
  Nat.rec (motive := fun _ => List α → Option (List α)) (fun l => overK xs l) (fun _ ih l => List.rec (motive := fun _ => Option (List α)) none (fun a r _ => someCons a (ih r)) l) o
theorem overK_eq : ∀ (xs l : List α), overK xs l = match Nat.ble xs.length l.length with | true => some (xs ++ l.drop xs.length) | false => none
  | [], l => by cases l <;> rfl
  | x :: xs, [] => rfl
  | x :: xs, a :: l => by
    show someCons x (overK xs l) = _
    rw [overK_eq xs l]
    have : Nat.ble (x :: xs).length (a :: l).length = Nat.ble xs.length l.length := rfl
    rw [this]
    cases Nat.ble xs.length l.length <;> rfl
theorem setK_eq : ∀ (o : Nat) (xs l : List α), setK o xs l = match Nat.ble (o + xs.length) l.length with | true => some (setR l o xs) | false => none
  | 0, xs, l => by
    show overK xs l = _
    rw [overK_eq, Nat.zero_add]
    cases Nat.ble xs.length l.length <;> simp [setR]
  | o + 1, xs, [] => by
    show none = _
    rw [show o + 1 + xs.length = (o + xs.length) + 1 by omega]; rfl
  | o + 1, xs, a :: l => by
    show someCons a (setK o xs l) = _
    rw [setK_eq o xs l, show o + 1 + xs.length = (o + xs.length) + 1 by omega]
    have : Nat.ble (o + xs.length + 1) (a :: l).length = Nat.ble (o + xs.length) l.length := rfl
    rw [this]
    cases Nat.ble (o + xs.length) l.length
    · rfl
    · show some (a :: setR l o xs) = some (setR (a :: l) (o + 1) xs)
      simp [setR, show o + 1 + xs.length = (o + xs.length) + 1 by omega]
def appK (xs ys : List α) : List α := List.rec (motive := fun _ => List α) ys (fun a _ ih => a :: ih) xs
theorem appK_eq : ∀ (xs ys : List α), appK xs ys = xs ++ ys
  | [], _ => rfl
  | x :: xs, ys => congrArg (x :: ·) (appK_eq xs ys)
def allK (p : α → Bool) (l : List α) : Bool := List.rec (motive := fun _ => Bool) true (fun a _ ih => Bool.rec (motive := fun _ => Bool) false ih (p a)) l
theorem allK_eq (p : α → Bool) : ∀ (l : List α), allK p l = l.all p
  | [] => rfl
  | a :: l => by
    show Bool.rec (motive := fun _ => Bool) false (allK p l) (p a) = _
    rw [allK_eq p l, List.all_cons]
    cases p a <;> rfl
def lenK (l : List α) : Nat := List.rec (motive := fun _ => Nat) 0 (fun _ _ ih => Nat.succ ih) l
theorem lenK_eq : ∀ (l : List α), lenK l = l.length
  | [] => rfl
  | _ :: l => congrArg Nat.succ (lenK_eq l)
end

def rdK (I : Inp) (h : AHeap) (l : Loc) (o : Nat) : Option AVal :=
  Loc.rec (motive := fun _ => Option AVal) (fun b => I b o) (fun k => Option.rec (motive := fun _ => Option AVal) none (fun b => nthK b.cells o) (h.get k)) l
theorem rdK_eq (I : Inp) (h : AHeap) (l : Loc) (o : Nat) : rdK I h l o = rd I h l o := by
  cases l with
  | inp b => rfl
  | own k =>
    show Option.rec (motive := fun _ => Option AVal) none (fun b => nthK b.cells o) (h.get k) = _
    simp only [rd]
    cases h.get k with
    | none => rfl
    | some b => exact nthK_eq _ _
def rdsK (I : Inp) (h : AHeap) (l : Loc) (o n : Nat) : Option (List AVal) :=
  Loc.rec (motive := fun _ => Option (List AVal)) (fun b => rdsInp I b o n) (fun k => Option.rec (motive := fun _ => Option (List AVal)) none (fun b => cutK o n b.cells) (h.get k)) l
theorem rdsK_eq (I : Inp) (h : AHeap) (l : Loc) (o n : Nat) : rdsK I h l o n = rds I h l o n := by
  cases l with
  | inp b => rfl
  | own k =>
    show Option.rec (motive := fun _ => Option (List AVal)) none (fun b => cutK o n b.cells) (h.get k) = _
    simp only [rds]
    cases h.get k with
    | none => rfl
    | some b => exact cutK_eq _ _ _
def Blk.wrK (b : Blk) (o : Nat) (cs : List AVal) : Option Blk :=
  Bool.rec (motive := fun _ => Option Blk) none (Option.rec (motive := fun _ => Option Blk) none (fun l => some ⟨l, b.plain⟩) (setK o cs b.cells)) (allK AVal.one cs)
theorem Blk.wrK_eq (b : Blk) (o : Nat) (cs : List AVal) : b.wrK o cs = b.wr o cs := by
  unfold Blk.wrK Blk.wr
  rw [allK_eq, setK_eq]
  cases hx : cs.all AVal.one <;> cases hy : Nat.ble (o + cs.length) b.cells.length <;> rfl

def appendK (I : Inp) (h : AHeap) (sz bytes : Nat) (x y : AVal) : Option (AVal × AHeap) :=
  match (match y with
    | .nils => some (0, [])
    | .sl l o len _ => match rdsK I h l o (len * sz) with
      | some cs => some (len, cs)
      | none => none
    | .str s => match Nat.beq sz 1 with
      | true => some (s.length, s.map fun b : Nat => .int .u8 (.ofNat b))
      | false => none
    | _ => none) with
  | none => none
  | some (n, news) =>
    match n with
    | 0 => match x with
      | .nils | .sl _ _ _ _ => some (x, h)
      | _ => none
    | n + 1 =>
      match allK AVal.one news with
      | false => none
      | true =>
      match x with
      | .nils => match h.room && Nat.ble ((n + 1) * bytes) bigRoom && Nat.ble (n + 1) bigRoom with
        | true => some (.sl (.own h.next) 0 (n + 1) (.grown sz), h.alloc ⟨news, true⟩)
        | false => none
      | .sl l o len cap =>
        match Nat.ble ((len + (n + 1)) * bytes) bigRoom && Nat.ble (len + (n + 1)) bigRoom with
        | false => none
        | true =>
        match cap with
        | .known c => match Nat.ble (len + (n + 1)) c with
          | true => match l with
            | .own k => match h.get k with
              | some b => match b.wrK (o + len * sz) news with
                | some b' => some (.sl l o (len + (n + 1)) cap, h.set k b')
                | none => none
              | none => none
            | .inp _ => none
          | false => match rdsK I h l o (len * sz), h.room with
            | some olds, true => match allK AVal.one olds with
              | true => some (.sl (.own h.next) 0 (len + (n + 1)) (.grown sz), h.alloc ⟨appK olds news, true⟩)
              | false => none
            | _, _ => none
        | .grown s => match l with
          | .inp _ => none
          | .own k => match h.get k with
            | none => none
            | some b => match Nat.beq s sz && Nat.ble (o + len * sz) (lenK b.cells) with
              | false => none
              | true => match Nat.ble (o + len * sz + lenK news) (lenK b.cells) with
                | true => match b.wrK (o + len * sz) news with
                  | some b' => some (.sl l o (len + (n + 1)) cap, h.set k b')
                  | none => none
                | false => match h.room && allK AVal.one ((b.cells.drop o).take (len * sz)) with
                  | true => some (.sl (.own h.next) 0 (len + (n + 1)) (.grown sz), (h.kill k).alloc ⟨appK ((b.cells.drop o).take (len * sz)) news, b.plain⟩)
                  | false => none
      | _ => none
theorem appendK_eq (I : Inp) (h : AHeap) (sz bytes : Nat) (x y : AVal) : appendK I h sz bytes x y = appendTo I h sz bytes x y := by
  unfold appendK appendTo srcCells
  simp only [rdsK_eq, allK_eq, appK_eq, lenK_eq, Blk.wrK_eq]
  rfl

def fillV : List AVal → List (Nat × Nat × AVal) → Option (List AVal)
  | cs, [] => some cs
  | cs, (off, sz, x) :: r =>
    match Nat.beq (lenK x.cells) sz with
    | true => Option.rec (motive := fun _ => Option (List AVal)) none (fun cs => fillV cs r) (setK off x.cells cs)
    | false => none

def optNatV (d : Nat) : Option AVal → Option Nat
  | none => some d
  | some x => asNat x

def sliceV (sz : Nat) (x : AVal) (lo hi mx : Option AVal) : Option AVal :=
  match x with
  | .nils => match optNatV 0 lo, optNatV 0 hi, optNatV 0 mx, mx.isNone || hi.isSome with
    | some 0, some 0, some 0, true => some .nils
    | _, _, _, _ => none
  | .sl l o len cap =>
    match optNatV 0 lo, optNatV len hi with
    | some a, some b =>
      match mx with
      | none => match Nat.ble a b && capHas cap sz len b with
        | true => some (.sl l (o + a * sz) (b - a) (capMinus cap a))
        | false => none
      | some m => match asNat m, hi with
        | some m, some _ => match Nat.ble a b && Nat.ble b m && capHas cap sz len m with
          | true => some (.sl l (o + a * sz) (b - a) (.known (m - a)))
          | false => none
        | _, _ => none
    | _, _ => none
  | _ => none

def pPick (c a b : AVal) : Option AVal :=
  match c with
  | .bool true => some a
  | .bool false => some b
  | _ => none
def bnd (r : Rs) (k : AVal → AHeap → Rs) : Rs :=
  Option.rec (motive := fun _ => Rs) none (fun p => Prod.rec (motive := fun _ => Rs) (fun v h => k v h) p) r
def bndP (r : Option AVal) (k : AVal → Rs) : Rs := Option.rec (motive := fun _ => Rs) none (fun v => k v) r

/-- A value, the heap as it was. -/
def lift (r : Option AVal) (h : AHeap) : Rs := Option.rec (motive := fun _ => Rs) none (fun v => some (v, h)) r
def sAlloc (z : List AVal) (h : AHeap) : Rs :=
  match h.room with
  | true => some (.ptr (.own h.next) 0, h.alloc ⟨z, true⟩)
  | false => none
def sBox (x : AVal) (h : AHeap) : Rs :=
  match h.room with
  | true => some (.ptr (.own h.next) 0, h.alloc ⟨x.cells, true⟩)
  | false => none
def pBuild (z : List AVal) (ps : List (Nat × Nat × AVal)) : Option AVal :=
  match fillV z ps with
  | some cs => some (.agg cs)
  | none => none
def sBuildSlice (z : List AVal) (n : Nat) (ps : List (Nat × Nat × AVal)) (h : AHeap) : Rs :=
  match fillV (zeros z (n * z.length)) ps, h.room with
  | some cs, true => some (.sl (.own h.next) 0 n (.known n), h.alloc ⟨cs, true⟩)
  | _, _ => none
def pLoad1 (I : Inp) (a : AVal) (h : AHeap) : Option AVal :=
  match a with
  | .ptr l o => rdK I h l o
  | _ => none
def pLoadN (I : Inp) (n : Nat) (a : AVal) (h : AHeap) : Option AVal :=
  match a with
  | .ptr l o => match rdsK I h l o n with
    | some cs => some (.agg cs)
    | none => none
  | _ => none
def sStore (n : Nat) (a x : AVal) (h : AHeap) : Rs :=
  match a with
  | .ptr (.own k) o => match h.get k, Nat.beq (lenK x.cells) n with
    | some b, true => match b.wrK o x.cells with
      | some b' => some (aundef, h.set k b')
      | none => none
    | _, _ => none
  | _ => none
def pNilCheck (x : AVal) : Option AVal :=
  match x with
  | .ptr l o => some (.ptr l o)
  | .sl l o n c => some (.sl l o n c)
  | .func (.func g) a b => some (.func (.func g) a b)
  | _ => none
def pBin (op : BinOp) (x y : AVal) : Option AVal := abin op x y
def pEq (P : Program) (neg : Bool) (ek : EqK) (c : Bool) (x y : AVal) (h : AHeap) : Option AVal :=
  match aeq P h ek c x y with
  | some b => some (.bool (if neg then !b else b))
  | none => none
def pUn (op : UnOp) (x : AVal) : Option AVal := aun op x
def pToInt (k : IntKind) (x : AVal) : Option AVal :=
  match x with
  | .int _ n => some (.int k (k.wrap n))
  | _ => none
def sToBytes (x : AVal) (h : AHeap) : Rs :=
  match x, h.room with
  | .str s, true => some (.sl (.own h.next) 0 s.length (.grown 1), h.alloc ⟨s.map fun b : Nat => .int .u8 (.ofNat b), false⟩)
  | _, _ => none
def byteOf : AVal → Option Nat
  | .int .u8 (.ofNat b) => (match Nat.blt b 256 with | true => some b | false => none)
  | _ => none
def pToStr (I : Inp) (x : AVal) (h : AHeap) : Option AVal :=
  match x with
  | .nils => some (.str [])
  | .sl l o n _ => match rdsK I h l o n with
    | some cs => match cs.mapM (m := Option) byteOf with
      | some bs => some (.str bs)
      | none => none
    | none => none
  | _ => none
def pAsStr (x : AVal) : Option AVal :=
  match x with
  | .str s => some (.str s)
  | _ => none
def sMakeSlice (z : List AVal) (bytes : Nat) (l c : AVal) (h : AHeap) : Rs :=
  match asNat l, asNat c, h.room with
  | some l, some c, true => match Nat.ble l c && Nat.ble (bytes * c) 140737488355328 && Nat.ble c 140737488355328 with
    | true => some (.sl (.own h.next) 0 l (.known c), h.alloc ⟨zeros z (c * z.length), true⟩)
    | false => none
  | _, _, _ => none
def sResvAlloc (k : Nat) (z : List AVal) (h : AHeap) : Rs := some (.ptr (.own k) 0, h.set k ⟨z, true⟩)
def sResvBox (k : Nat) (x : AVal) (h : AHeap) : Rs := some (.ptr (.own k) 0, h.set k ⟨x.cells, true⟩)
def sResvSlice (k : Nat) (z : List AVal) (n : Nat) (ps : List (Nat × Nat × AVal)) (h : AHeap) : Rs :=
  match fillV (zeros z (n * z.length)) ps with
  | some cs => some (.sl (.own k) 0 n (.known n), h.set k ⟨cs, true⟩)
  | none => none
def sResvMake (k : Nat) (z : List AVal) (bytes : Nat) (l c : AVal) (h : AHeap) : Rs :=
  match asNat l, asNat c with
  | some l, some c => match Nat.ble l c && Nat.ble (bytes * c) 140737488355328 && Nat.ble c 140737488355328 with
    | true => some (.sl (.own k) 0 l (.known c), h.set k ⟨zeros z (c * z.length), true⟩)
    | false => none
  | _, _ => none
def pSliceS (sz : Nat) (x : AVal) (lo hi mx : Option AVal) : Option AVal := sliceV sz x lo hi mx
def pSliceStr (x : AVal) (lo hi : Option AVal) : Option AVal :=
  match x with
  | .str s => match optNatV 0 lo, optNatV s.length hi with
    | some a, some b => match Nat.ble a b && Nat.ble b s.length with
      | true => some (.str ((s.drop a).take (b - a)))
      | false => none
    | _, _ => none
  | _ => none
def pSliceArr (n sz : Nat) (x : AVal) (lo hi mx : Option AVal) : Option AVal :=
  match x with
  | .ptr l o => match sliceV sz (.sl l o n (.known n)) lo hi mx with
    | some v => some v
    | none => none
  | _ => none
def pFieldAddr (off : Nat) (x : AVal) : Option AVal :=
  match x with
  | .ptr l o => some (.ptr l (o + off))
  | _ => none
def pField1 (off : Nat) (x : AVal) : Option AVal :=
  match x with
  | .agg cs => nthK cs off
  | _ => none
def pFieldN (off n : Nat) (x : AVal) : Option AVal :=
  match x with
  | .agg cs => match cutK off n cs with
    | some l => some (.agg l)
    | none => none
  | _ => none
def pIndexAddr (sz : Nat) (x i : AVal) : Option AVal :=
  match x, asNat i with
  | .sl l o n _, some j => match Nat.blt j n with
    | true => some (.ptr l (o + j * sz))
    | false => none
  | _, _ => none
def pIndexAddrArr (n sz : Nat) (x i : AVal) : Option AVal :=
  match x, asNat i with
  | .ptr l o, some j => match Nat.blt j n with
    | true => some (.ptr l (o + j * sz))
    | false => none
  | _, _ => none
def pIndexStr (x i : AVal) : Option AVal :=
  match x, asNat i with
  | .str s, some j => match nthK s j with
    | some b => some (.int .u8 b)
    | none => none
  | _, _ => none
def pIndex1 (n : Nat) (x i : AVal) : Option AVal :=
  match x, asNat i with
  | .agg cs, some j => match nthK cs j, Nat.blt j n with
    | some v, true => some v
    | _, _ => none
  | _, _ => none
def pIndexN (n sz : Nat) (x i : AVal) : Option AVal :=
  match x, asNat i with
  | .agg cs, some j => match Nat.blt j n && Nat.ble (j * sz + sz) cs.length with
    | true => some (.agg ((cs.drop (j * sz)).take sz))
    | _ => none
  | _, _ => none
def pExtract (x : AVal) (i : Nat) : Option AVal :=
  match x with
  | .tuple vs => nthK vs i
  | _ => none
def pAssertI (P : Program) (t : TypeId) (z : AVal) (ok : Bool) (x : AVal) : Option AVal :=
  match x with
  | .nili => if ok then some (.tuple [z, .bool false]) else none
  | .iface u v => match implB P t u with
    | some true => some (if ok then .tuple [.iface u v, .bool true] else .iface u v)
    | some false => if ok then some (.tuple [z, .bool false]) else none
    | none => none
  | _ => none
def pAssertT (t : TypeId) (z : AVal) (ok : Bool) (x : AVal) : Option AVal :=
  match x with
  | .nili => if ok then some (.tuple [z, .bool false]) else none
  | .iface u v => if u = t then some (if ok then .tuple [v, .bool true] else v) else if ok then some (.tuple [z, .bool false]) else none
  | _ => none
def pLenStr (x : AVal) : Option AVal :=
  match x with
  | .str s => some (.int .i64 s.length)
  | _ => none
def pLenSl (x : AVal) : Option AVal :=
  match x with
  | .nils => some (.int .i64 0)
  | .sl _ _ n _ => some (.int .i64 n)
  | _ => none
def pMinmax (mx : Bool) (xs : List AVal) : Option AVal :=
  match xs with
  | AVal.int k a :: r => match minInts mx k a r with
    | some v => some v
    | none => none
  | _ => none
def sAppend (I : Inp) (sz bytes : Nat) (x y : AVal) (h : AHeap) : Rs := appendK I h sz bytes x y

/-! the function that a call enters -/
def sCallv (call : CallFn) (x : AVal) (args : List AVal) (h : AHeap) : Rs :=
  match x with
  | .func (.func g) first captured => call g (first ++ args ++ captured) h
  | _ => none
def sInvoke (P : Program) (call : CallFn) (x : AVal) (name : String) (args : List AVal) (h : AHeap) : Rs :=
  match x with
  | .iface t v => match methodOf P t name, v with
    | some g, .nilp => call g (v :: args) h
    | some g, .ptr _ _ => call g (v :: args) h
    | _, _ => none
  | _ => none

section
variable (P : Program) (I : Inp) (call : CallFn)

def evs (ρ : Fun) (xs : List AOpd) : List AVal := xs.map (AOpd.evV ρ)
def evPs (ρ : Fun) (ps : List (Nat × Nat × AOpd)) : List (Nat × Nat × AVal) := ps.map fun p => (p.1, p.2.1, p.2.2.evV ρ)

def MOp.stepV (ρ : Fun) (k : Nat) (h : AHeap) : MOp → Rs
  | .alloc z => sResvAlloc k z h
  | .box x => sResvBox k (x.evV ρ) h
  | .buildSlice z n ps => sResvSlice k z n (evPs ρ ps) h
  | .makeSlice z bytes l c => sResvMake k z bytes (l.evV ρ) (c.evV ρ) h

/-- An operation, calls too. -/
def AOp.runV (ρ : Fun) (h : AHeap) : AOp → Rs
  | .move x => some (x.evV ρ, h)
  | .pick c a b => lift (pPick (c.evV ρ) (a.evV ρ) (b.evV ρ)) h
  | .alloc z => sAlloc z h
  | .box x => sBox (x.evV ρ) h
  | .build z ps => lift (pBuild z (evPs ρ ps)) h
  | .buildSlice z n ps => sBuildSlice z n (evPs ρ ps) h
  | .load1 a => lift (pLoad1 I (a.evV ρ) h) h
  | .loadN n a => lift (pLoadN I n (a.evV ρ) h) h
  | .store n a x => sStore n (a.evV ρ) (x.evV ρ) h
  | .nilCheck x => lift (pNilCheck (x.evV ρ)) h
  | .bin op x y => lift (pBin op (x.evV ρ) (y.evV ρ)) h
  | .eq neg ek c x y => lift (pEq P neg ek c (x.evV ρ) (y.evV ρ) h) h
  | .un op x => lift (pUn op (x.evV ρ)) h
  | .toInt k x => lift (pToInt k (x.evV ρ)) h
  | .toBytes x => sToBytes (x.evV ρ) h
  | .toStr x => lift (pToStr I (x.evV ρ) h) h
  | .asStr x => lift (pAsStr (x.evV ρ)) h
  | .iface t x => some (.iface t (x.evV ρ), h)
  | .mkFunc fn a b => some (.func fn (evs ρ a) (evs ρ b), h)
  | .makeSlice z bytes l c => sMakeSlice z bytes (l.evV ρ) (c.evV ρ) h
  | .resv k m => m.stepV ρ k h
  | .sliceS sz x lo hi mx => lift (pSliceS sz (x.evV ρ) (lo.map (AOpd.evV ρ)) (hi.map (AOpd.evV ρ)) (mx.map (AOpd.evV ρ))) h
  | .sliceStr x lo hi => lift (pSliceStr (x.evV ρ) (lo.map (AOpd.evV ρ)) (hi.map (AOpd.evV ρ))) h
  | .sliceArr n sz x lo hi mx => lift (pSliceArr n sz (x.evV ρ) (lo.map (AOpd.evV ρ)) (hi.map (AOpd.evV ρ)) (mx.map (AOpd.evV ρ))) h
  | .fieldAddr off x => lift (pFieldAddr off (x.evV ρ)) h
  | .field1 off x => lift (pField1 off (x.evV ρ)) h
  | .fieldN off n x => lift (pFieldN off n (x.evV ρ)) h
  | .indexAddr sz x i => lift (pIndexAddr sz (x.evV ρ) (i.evV ρ)) h
  | .indexAddrArr n sz x i => lift (pIndexAddrArr n sz (x.evV ρ) (i.evV ρ)) h
  | .indexStr x i => lift (pIndexStr (x.evV ρ) (i.evV ρ)) h
  | .index1 n x i => lift (pIndex1 n (x.evV ρ) (i.evV ρ)) h
  | .indexN n sz x i => lift (pIndexN n sz (x.evV ρ) (i.evV ρ)) h
  | .extract x i => lift (pExtract (x.evV ρ) i) h
  | .assertI t z ok x => lift (pAssertI P t z ok (x.evV ρ)) h
  | .assertT t z ok x => lift (pAssertT t z ok (x.evV ρ)) h
  | .lenStr x => lift (pLenStr (x.evV ρ)) h
  | .lenSl x => lift (pLenSl (x.evV ρ)) h
  | .minmax mx xs => lift (pMinmax mx (evs ρ xs)) h
  | .append sz bytes x y => sAppend I sz bytes (x.evV ρ) (y.evV ρ) h
  | .call g args => call g (evs ρ args) h
  | .callv x args => sCallv call (x.evV ρ) (evs ρ args) h
  | .invoke x name args => sInvoke P call (x.evV ρ) name (evs ρ args) h

/-- The same, with what follows. -/
def AOp.bindV (ρ : Fun) (h : AHeap) (kk : AVal → AHeap → Rs) : AOp → Rs
  | .move x => kk (x.evV ρ) h
  | .pick c a b => bndP (pPick (c.evV ρ) (a.evV ρ) (b.evV ρ)) fun v => kk v h
  | .alloc z => bnd (sAlloc z h) kk
  | .box x => bnd (sBox (x.evV ρ) h) kk
  | .build z ps => bndP (pBuild z (evPs ρ ps)) fun v => kk v h
  | .buildSlice z n ps => bnd (sBuildSlice z n (evPs ρ ps) h) kk
  | .load1 a => bndP (pLoad1 I (a.evV ρ) h) fun v => kk v h
  | .loadN n a => bndP (pLoadN I n (a.evV ρ) h) fun v => kk v h
  | .store n a x => bnd (sStore n (a.evV ρ) (x.evV ρ) h) kk
  | .nilCheck x => bndP (pNilCheck (x.evV ρ)) fun v => kk v h
  | .bin op x y => bndP (pBin op (x.evV ρ) (y.evV ρ)) fun v => kk v h
  | .eq neg ek c x y => bndP (pEq P neg ek c (x.evV ρ) (y.evV ρ) h) fun v => kk v h
  | .un op x => bndP (pUn op (x.evV ρ)) fun v => kk v h
  | .toInt k x => bndP (pToInt k (x.evV ρ)) fun v => kk v h
  | .toBytes x => bnd (sToBytes (x.evV ρ) h) kk
  | .toStr x => bndP (pToStr I (x.evV ρ) h) fun v => kk v h
  | .asStr x => bndP (pAsStr (x.evV ρ)) fun v => kk v h
  | .iface t x => kk (.iface t (x.evV ρ)) h
  | .mkFunc fn a b => kk (.func fn (evs ρ a) (evs ρ b)) h
  | .makeSlice z bytes l c => bnd (sMakeSlice z bytes (l.evV ρ) (c.evV ρ) h) kk
  | .resv k m => bnd (m.stepV ρ k h) kk
  | .sliceS sz x lo hi mx => bndP (pSliceS sz (x.evV ρ) (lo.map (AOpd.evV ρ)) (hi.map (AOpd.evV ρ)) (mx.map (AOpd.evV ρ))) fun v => kk v h
  | .sliceStr x lo hi => bndP (pSliceStr (x.evV ρ) (lo.map (AOpd.evV ρ)) (hi.map (AOpd.evV ρ))) fun v => kk v h
  | .sliceArr n sz x lo hi mx => bndP (pSliceArr n sz (x.evV ρ) (lo.map (AOpd.evV ρ)) (hi.map (AOpd.evV ρ)) (mx.map (AOpd.evV ρ))) fun v => kk v h
  | .fieldAddr off x => bndP (pFieldAddr off (x.evV ρ)) fun v => kk v h
  | .field1 off x => bndP (pField1 off (x.evV ρ)) fun v => kk v h
  | .fieldN off n x => bndP (pFieldN off n (x.evV ρ)) fun v => kk v h
  | .indexAddr sz x i => bndP (pIndexAddr sz (x.evV ρ) (i.evV ρ)) fun v => kk v h
  | .indexAddrArr n sz x i => bndP (pIndexAddrArr n sz (x.evV ρ) (i.evV ρ)) fun v => kk v h
  | .indexStr x i => bndP (pIndexStr (x.evV ρ) (i.evV ρ)) fun v => kk v h
  | .index1 n x i => bndP (pIndex1 n (x.evV ρ) (i.evV ρ)) fun v => kk v h
  | .indexN n sz x i => bndP (pIndexN n sz (x.evV ρ) (i.evV ρ)) fun v => kk v h
  | .extract x i => bndP (pExtract (x.evV ρ) i) fun v => kk v h
  | .assertI t z ok x => bndP (pAssertI P t z ok (x.evV ρ)) fun v => kk v h
  | .assertT t z ok x => bndP (pAssertT t z ok (x.evV ρ)) fun v => kk v h
  | .lenStr x => bndP (pLenStr (x.evV ρ)) fun v => kk v h
  | .lenSl x => bndP (pLenSl (x.evV ρ)) fun v => kk v h
  | .minmax mx xs => bndP (pMinmax mx (evs ρ xs)) fun v => kk v h
  | .append sz bytes x y => bnd (sAppend I sz bytes (x.evV ρ) (y.evV ρ) h) kk
  | .call g args => bnd (call g (evs ρ args) h) kk
  | .callv x args => bnd (sCallv call (x.evV ρ) (evs ρ args) h) kk
  | .invoke x name args => bnd (sInvoke P call (x.evV ρ) name (evs ρ args) h) kk

def sGuard (c : AVal) (want : Bool) (r : Rs) (h : AHeap) : Rs :=
  match c with
  | .bool b => match b == want with
    | true => r
    | false => some (aundef, h)
  | _ => some (aundef, h)

def valV (o : AOper) (ρ : Fun) (h : AHeap) : Rs :=
  match o.guard with
  | none => o.op.runV P I call ρ h
  | some (t, want) => sGuard (ρ t) want (o.op.runV P I call ρ h) h
end

section
variable (P : Program) (I : Inp) (call : CallFn)
def bindO (o : AOper) (ρ : Fun) (h : AHeap) (k : AVal → AHeap → Rs) : Rs :=
  match o.guard with
  | none => o.op.bindV P I call ρ h k
  | some (t, want) => bnd (sGuard (ρ t) want (o.op.runV P I call ρ h) h) k
theorem bnd_lift (r : Option AVal) (h : AHeap) (k : AVal → AHeap → Rs) : bndP r (fun v => k v h) = bnd (lift r h) k := by cases r <;> rfl
theorem bindV_eq (ρ : Fun) (h : AHeap) (k : AVal → AHeap → Rs) (op : AOp) : op.bindV P I call ρ h k = bnd (op.runV P I call ρ h) k := by
  cases op <;> first | rfl | exact bnd_lift _ _ _
theorem bindO_eq (o : AOper) (ρ : Fun) (h : AHeap) (k : AVal → AHeap → Rs) : bindO P I call o ρ h k = bnd (valV P I call o ρ h) k := by
  unfold bindO valV
  split
  · exact bindV_eq _ _ _ _ _ _ _
  · rfl
end

/-! ### they are the abstract machine's -/
section
variable {P : Program} {I : Inp} {call : CallFn}

theorem evV_get (f : Fr) (x : AOpd) : x.evV (Fr.get f) = x.ev f := by cases x <;> rfl
theorem evs_get (f : Fr) (xs : List AOpd) : evs (Fr.get f) xs = xs.map (·.ev f) := by
  unfold evs; exact List.map_congr_left fun x _ => evV_get f x
theorem fillV_eq (f : Fr) : ∀ (ps : List (Nat × Nat × AOpd)) (cs : List AVal), fillV cs (evPs (Fr.get f) ps) = fillA f cs ps
  | [], cs => rfl
  | (off, sz, x) :: r, cs => by
    show (match Nat.beq (lenK (x.evV (Fr.get f)).cells) sz with
      | true => Option.rec (motive := fun _ => Option (List AVal)) none (fun cs => fillV cs (evPs (Fr.get f) r)) (setK off (x.evV (Fr.get f)).cells cs)
      | false => none) = _
    rw [evV_get, lenK_eq, setK_eq]
    simp only [fillA]
    cases h1 : Nat.beq (AOpd.ev f x).cells.length sz <;> cases h2 : Nat.ble (off + (AOpd.ev f x).cells.length) cs.length
    · rfl
    · rfl
    · rfl
    · exact fillV_eq f r _
theorem optNatV_eq (f : Fr) (d : Nat) (x : Option AOpd) : optNatV d (x.map (AOpd.evV (Fr.get f))) = optNat f d x := by
  cases x with
  | none => rfl
  | some x => show asNat (x.evV (Fr.get f)) = _; rw [evV_get]; rfl
theorem sliceV_eq (f : Fr) (sz : Nat) (v : AVal) (lo hi mx : Option AOpd) :
    sliceV sz v (lo.map (AOpd.evV (Fr.get f))) (hi.map (AOpd.evV (Fr.get f))) (mx.map (AOpd.evV (Fr.get f))) = sliceOf f sz v lo hi mx := by
  cases v <;> simp only [sliceV, sliceOf, optNatV_eq]
  case nils =>
    cases mx <;> cases hi <;> rfl
  case sl l o n c =>
    cases mx with
    | none => rfl
    | some m =>
      simp only [Option.map_some, evV_get]
      generalize optNat f 0 lo = p
      generalize optNat f n hi = q
      generalize asNat (m.ev f) = r
      cases hi <;> cases p <;> cases q <;> cases r <;> rfl

theorem runV_step (f : Fr) (h : AHeap) (op : AOp) : op.runV P I call (Fr.get f) h = (match op.target P f with
    | some (g, args) => call g args h
    | none => op.stepK P I f h) := by
  cases op
  case call g args => simp only [AOp.runV, AOp.target, evs_get]
  case callv x args =>
    simp only [AOp.runV, AOp.target, evs_get, evV_get, sCallv]
    cases x.ev f <;> try rfl
    rename_i fn a b
    cases fn <;> rfl
  case invoke x name args =>
    simp only [AOp.runV, AOp.target, evs_get, evV_get, sInvoke]
    cases x.ev f <;> try rfl
    rename_i t v
    cases hm : methodOf P t name with
    | none => cases v <;> simp only [hm] <;> rfl
    | some g => cases v <;> simp only [hm] <;> rfl
  case resv k m =>
    cases m with
    | alloc z => rfl
    | box x => simp only [AOp.runV, AOp.target, AOp.stepK, stepK_resv, MOp.stepV, MOp.made, sResvBox, evV_get]
    | buildSlice z n ps =>
      simp only [AOp.runV, AOp.target, AOp.stepK, stepK_resv, MOp.stepV, MOp.made, sResvSlice, fillV_eq]
      cases fillA f (zeros z (n * z.length)) ps <;> rfl
    | makeSlice z bytes l c =>
      simp only [AOp.runV, AOp.target, AOp.stepK, stepK_resv, MOp.stepV, MOp.made, sResvMake, evV_get]
      cases asNat (l.ev f) <;> cases asNat (c.ev f) <;> try rfl
      rename_i a b
      dsimp only
      generalize (Nat.ble a b && Nat.ble (bytes * b) 140737488355328 && Nat.ble b 140737488355328) = q
      cases q <;> rfl
  case pick c a b =>
    simp only [AOp.runV, AOp.target, AOp.stepK, stepK_pick, pPick, lift, evV_get]
    generalize c.ev f = q0
    cases q0 <;> try rfl
    rename_i b; cases b <;> rfl
  case build z ps =>
    simp only [AOp.runV, AOp.target, AOp.stepK, stepK_build, pBuild, lift, fillV_eq]
    generalize fillA f z ps = q0
    cases q0 <;> rfl
  case buildSlice z n ps =>
    simp only [AOp.runV, AOp.target, AOp.stepK, stepK_buildSlice, sBuildSlice, fillV_eq]
    rfl
  case load1 a =>
    simp only [AOp.runV, AOp.target, AOp.stepK, stepK_load1, pLoad1, lift, evV_get]
    generalize a.ev f = q0
    cases q0 <;> try rfl
    rename_i l o; dsimp only; rw [rdK_eq]; generalize rd I h l o = q1; cases q1 <;> rfl
  case loadN n a =>
    simp only [AOp.runV, AOp.target, AOp.stepK, stepK_loadN, pLoadN, lift, evV_get]
    generalize a.ev f = q0
    cases q0 <;> try rfl
    rename_i l o; dsimp only; rw [rdsK_eq]; generalize rds I h l o n = q1; cases q1 <;> rfl
  case nilCheck x =>
    simp only [AOp.runV, AOp.target, AOp.stepK, stepK_nilCheck, pNilCheck, lift, evV_get]
    generalize x.ev f = q0
    cases q0 <;> try rfl
    rename_i fn a b; cases fn <;> rfl
  case bin op x y =>
    simp only [AOp.runV, AOp.target, AOp.stepK, stepK_bin, pBin, lift, evV_get]
    generalize abin op (x.ev f) (y.ev f) = q0
    cases q0 <;> rfl
  case eq neg ek c x y =>
    simp only [AOp.runV, AOp.target, AOp.stepK, stepK_eq, pEq, lift, evV_get]
    generalize aeq P h ek c (x.ev f) (y.ev f) = q0
    cases q0 <;> rfl
  case un op x =>
    simp only [AOp.runV, AOp.target, AOp.stepK, stepK_un, pUn, lift, evV_get]
    generalize aun op (x.ev f) = q0
    cases q0 <;> rfl
  case toInt k x =>
    simp only [AOp.runV, AOp.target, AOp.stepK, stepK_toInt, pToInt, lift, evV_get]
    generalize x.ev f = q0
    cases q0 <;> rfl
  case toStr x =>
    simp only [AOp.runV, AOp.target, AOp.stepK, stepK_toStr, pToStr, lift, evV_get]
    generalize x.ev f = q0
    cases q0 <;> try rfl
    rename_i l o n c
    dsimp only
    rw [rdsK_eq]
    generalize rds I h l o n = q1
    cases q1 with
    | none => rfl
    | some cs =>
      show _ = (match List.mapM (m := Option) byteOf cs with | some bs => some (AVal.str bs, h) | none => none)
      dsimp only
      generalize cs.mapM (m := Option) byteOf = q2
      cases q2 <;> rfl
  case asStr x =>
    simp only [AOp.runV, AOp.target, AOp.stepK, stepK_asStr, pAsStr, lift, evV_get]
    generalize x.ev f = q0
    cases q0 <;> rfl
  case sliceS sz x lo hi mx =>
    simp only [AOp.runV, AOp.target, AOp.stepK, stepK_sliceS, pSliceS, lift, sliceV_eq, evV_get]
    generalize sliceOf f sz (x.ev f) lo hi mx = q0
    cases q0 <;> rfl
  case sliceStr x lo hi =>
    simp only [AOp.runV, AOp.target, AOp.stepK, stepK_sliceStr, pSliceStr, lift, optNatV_eq, evV_get]
    generalize x.ev f = q0
    cases q0 <;> try rfl
    rename_i s
    dsimp only
    generalize optNat f 0 lo = q1
    generalize optNat f s.length hi = q2
    cases q1 <;> cases q2 <;> try rfl
    rename_i a b
    dsimp only
    generalize (Nat.ble a b && Nat.ble b s.length) = q3
    cases q3 <;> rfl
  case sliceArr n sz x lo hi mx =>
    simp only [AOp.runV, AOp.target, AOp.stepK, stepK_sliceArr, pSliceArr, lift, sliceV_eq, evV_get]
    generalize x.ev f = q0
    cases q0 <;> try rfl
    rename_i l o
    dsimp only
    generalize sliceOf f sz (.sl l o n (.known n)) lo hi mx = q1
    cases q1 <;> rfl
  case fieldAddr off x =>
    simp only [AOp.runV, AOp.target, AOp.stepK, stepK_fieldAddr, pFieldAddr, lift, evV_get]
    generalize x.ev f = q0
    cases q0 <;> rfl
  case field1 off x =>
    simp only [AOp.runV, AOp.target, AOp.stepK, stepK_field1, pField1, lift, evV_get]
    generalize x.ev f = q0
    cases q0 <;> try rfl
    rename_i cs; dsimp only; rw [nthK_eq]; generalize cs[off]? = q1; cases q1 <;> rfl
  case fieldN off n x =>
    simp only [AOp.runV, AOp.target, AOp.stepK, stepK_fieldN, pFieldN, lift, evV_get]
    generalize x.ev f = q0
    cases q0 <;> try rfl
    rename_i cs; dsimp only; rw [cutK_eq]; generalize Nat.ble (off + n) cs.length = q1; cases q1 <;> rfl
  case indexAddr sz x i =>
    simp only [AOp.runV, AOp.target, AOp.stepK, stepK_indexAddr, pIndexAddr, lift, evV_get]
    generalize x.ev f = q0
    generalize asNat (i.ev f) = q1
    cases q0 <;> cases q1 <;> try rfl
    rename_i j; dsimp only; generalize Nat.blt j _ = q2; cases q2 <;> rfl
  case indexAddrArr n sz x i =>
    simp only [AOp.runV, AOp.target, AOp.stepK, stepK_indexAddrArr, pIndexAddrArr, lift, evV_get]
    generalize x.ev f = q0
    generalize asNat (i.ev f) = q1
    cases q0 <;> cases q1 <;> try rfl
    rename_i j; dsimp only; generalize Nat.blt j _ = q2; cases q2 <;> rfl
  case indexStr x i =>
    simp only [AOp.runV, AOp.target, AOp.stepK, stepK_indexStr, pIndexStr, lift, evV_get]
    generalize x.ev f = q0
    generalize asNat (i.ev f) = q1
    cases q0 <;> cases q1 <;> try rfl
    rename_i s j; dsimp only; rw [nthK_eq]; generalize s[j]? = q2; cases q2 <;> rfl
  case index1 n x i =>
    simp only [AOp.runV, AOp.target, AOp.stepK, stepK_index1, pIndex1, lift, evV_get]
    generalize x.ev f = q0
    generalize asNat (i.ev f) = q1
    cases q0 <;> cases q1 <;> try rfl
    rename_i s j; dsimp only; rw [nthK_eq]; generalize s[j]? = q2; generalize Nat.blt j n = q3; cases q2 <;> cases q3 <;> rfl
  case indexN n sz x i =>
    simp only [AOp.runV, AOp.target, AOp.stepK, stepK_indexN, pIndexN, lift, evV_get]
    generalize x.ev f = q0
    generalize asNat (i.ev f) = q1
    cases q0 <;> cases q1 <;> try rfl
    rename_i cs j; dsimp only; generalize (Nat.blt j n && Nat.ble (j * sz + sz) cs.length) = q2; cases q2 <;> rfl
  case extract x i =>
    simp only [AOp.runV, AOp.target, AOp.stepK, stepK_extract, pExtract, lift, evV_get]
    generalize x.ev f = q0
    cases q0 <;> try rfl
    rename_i vs; dsimp only; rw [nthK_eq]; generalize vs[i]? = q1; cases q1 <;> rfl
  case assertI t z ok x =>
    simp only [AOp.runV, AOp.target, AOp.stepK, stepK_assertI, pAssertI, lift, evV_get]
    generalize x.ev f = q0
    cases q0 <;> try rfl
    · cases ok <;> rfl
    · rename_i u v
      dsimp only
      generalize implB P t u = q1
      cases q1 with
      | none => rfl
      | some b => cases b <;> cases ok <;> rfl
  case assertT t z ok x =>
    simp only [AOp.runV, AOp.target, AOp.stepK, stepK_assertT, pAssertT, lift, evV_get]
    generalize x.ev f = q0
    cases q0 <;> try rfl
    · cases ok <;> rfl
    · rename_i u v
      dsimp only
      by_cases hu : u = t <;> cases ok <;> simp only [hu, if_true, if_false, Bool.false_eq_true]
  case lenStr x =>
    simp only [AOp.runV, AOp.target, AOp.stepK, stepK_lenStr, pLenStr, lift, evV_get]
    generalize x.ev f = q0
    cases q0 <;> rfl
  case lenSl x =>
    simp only [AOp.runV, AOp.target, AOp.stepK, stepK_lenSl, pLenSl, lift, evV_get]
    generalize x.ev f = q0
    cases q0 <;> rfl
  case minmax mx xs =>
    simp only [AOp.runV, AOp.target, AOp.stepK, stepK_minmax, pMinmax, lift, evs_get]
    generalize xs.map (fun x : AOpd => x.ev f) = q0
    cases q0 with
    | nil => rfl
    | cons a r =>
      cases a <;> try rfl
      rename_i k n
      dsimp only
      generalize minInts mx k n r = q1
      cases q1 <;> rfl
  case store n a x =>
    simp only [AOp.runV, AOp.target, AOp.stepK, stepK_store, sStore, evV_get, lenK_eq, Blk.wrK_eq]
    rfl
  case append sz bytes x y => simp only [AOp.runV, AOp.target, AOp.stepK, stepK_append, sAppend, evV_get, appendK_eq]
  case mkFunc fn a b =>
    simp only [AOp.runV, AOp.target, AOp.stepK, stepK_mkFunc, evs_get]
    try rfl
  all_goals simp only [AOp.runV, AOp.target, AOp.stepK, evV_get] <;> rfl

theorem valV_eq (o : AOper) (f : Fr) (h : AHeap) : valV P I call o (Fr.get f) h = valOper P I call o f h := by
  obtain ⟨dst, op, guard⟩ := o
  cases guard with
  | none => simp only [valV, valOper, runV_step]; rfl
  | some g =>
    obtain ⟨t, want⟩ := g
    simp only [valV, valOper, runV_step, sGuard]
    cases f.get t <;> rfl
end
end

end Go.AM
