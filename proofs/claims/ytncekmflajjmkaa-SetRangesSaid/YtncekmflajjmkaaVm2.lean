/- The value machine, 2: states, operations, and how an operation of the model is read as one. -/
import Derived.Test.YtncekmflajjmkaaVm1
namespace Go.Vm
open Go.RowKit

structure St where
  env : List (Nat × D)
  hp : List (Nat × List D)
  tg : List (Tag × Bool)
  deriving Inhabited

def lkp {α β : Type} [DecidableEq α] (t : α) : List (α × β) → Option β
  | [] => none
  | (k, v) :: l => if t = k then some v else lkp t l

def St.get (S : St) (t : Nat) : Option D := lkp t S.env
def St.box (S : St) (o : Nat) : Option (List D) := lkp o S.hp
def St.tag (S : St) (t : Tag) : Option Bool := lkp t S.tg
def St.put (S : St) (dst : Option Nat) (d : D) : St :=
  match dst with
  | some t => { S with env := (t, d) :: S.env }
  | none => S

def constD : Value → D
  | .slice none 0 0 => .sl none []
  | v => .val v

def look (S : St) : Operand → Option D
  | .tmp t => S.get t
  | .const v => some (constD v)
  | .func f => some (.fn f [] [])
  | .global _ => none

def looks (S : St) : List Operand → Option (List D)
  | [] => some []
  | x :: xs => match look S x, looks S xs with
    | some d, some ds => some (d :: ds)
    | _, _ => none

/-- The kinds of scalars. -/
inductive SK | b | i | s
  deriving DecidableEq

/-- How a call goes: of frozen data · with a row of the caller's as its outcome · with a row of the caller's as its first argument, made over in place. -/
inductive CM
  | pure
  | fresh (e sz : Nat)
  | turn
  deriving Inhabited

inductive MOp
  | mov (x : Operand)
  | movS (x : Operand)
  | pick (c a b : Operand)
  | load (sz : Option Nat) (x : Operand)
  | bin (op : BinOp) (x y : Operand)
  | binB (neg : Bool) (x y : Operand)
  | binP (neg : Bool) (x y : Operand)
  | eqs (neg : Bool) (ks : List SK) (x y : Operand)
  | un (op : UnOp) (x : Operand)
  | conv (k : IntKind) (x : Operand)
  | faddr (off : Nat) (x : Operand)
  | fld (off : Nat) (sz : Option Nat) (x : Operand)
  | iaddrS (sz : Nat) (x i : Operand)
  | iaddrA (n sz : Nat) (x i : Operand)
  | idxA (n sz : Nat) (agg : Bool) (x i : Operand)
  | idxS (x i : Operand)
  | build (zero : List D) (parts : List (Nat × Nat × Operand))
  | slcS (x : Operand) (lo hi : Option Operand)
  | slc (sz : Nat) (x : Operand) (lo hi : Option Operand)
  | lenS (x : Operand)
  | lenL (x : Operand)
  | minmax (mx : Bool) (xs : List Operand)
  | ext (x : Operand) (i : Nat)
  | mkfn (f : FuncId) (first caps : List Operand)
  | nilck (x : Operand)
  | b2s (x : Operand)
  | alloc (t : TypeId) (zero : List D)
  | box (t : TypeId) (sz : Nat) (x : Operand)
  | nilsl (e sz : Nat)
  | bslice (e sz : Nat) (zero : List D) (len : Nat) (parts : List (Nat × Nat × Operand))
  | store (sz : Nat) (x v : Operand)
  | append (e sz bytes : Nat) (x y : Operand)
  | call (f : Operand) (args : List Operand) (md : CM)
  | isnil (neg : Bool) (x : Operand)

structure MO where
  dst : Option Nat
  op : MOp
  guard : Option (Nat × Bool)

/-! ### what an operation answers -/
def binI (op : BinOp) (k : IntKind) (a b : Int) : Option Value :=
  match op with
  | .add => some (.int k (k.wrap (a + b)))
  | .sub => some (.int k (k.wrap (a - b)))
  | .mul => some (.int k (k.wrap (a * b)))
  | .quo => if b = 0 then none else some (.int k (k.wrap (a.tdiv b)))
  | .rem => if b = 0 then none else some (.int k (a.tmod b))
  | .and => some (.int k (k.wrap (BitVec.ofInt k.bits a &&& BitVec.ofInt k.bits b).toNat))
  | .or => some (.int k (k.wrap (BitVec.ofInt k.bits a ||| BitVec.ofInt k.bits b).toNat))
  | .xor => some (.int k (k.wrap (BitVec.ofInt k.bits a ^^^ BitVec.ofInt k.bits b).toNat))
  | .andNot => some (.int k (k.wrap (BitVec.ofInt k.bits a &&& ~~~ BitVec.ofInt k.bits b).toNat))
  | .eql => some (.bool (a == b))
  | .neq => some (.bool (a != b))
  | .lss => some (.bool (decide (a < b)))
  | .leq => some (.bool (decide (a ≤ b)))
  | .gtr => some (.bool (decide (a > b)))
  | .geq => some (.bool (decide (a ≥ b)))
  | _ => none
def shI (op : BinOp) (k : IntKind) (a b : Int) : Option Value :=
  if b < 0 then none else
  match op with
  | .shl => some (.int k (k.wrap (a * 2 ^ (min b.toNat k.bits))))
  | .shr => some (.int k (a.fdiv (2 ^ (min b.toNat k.bits))))
  | _ => none
def binS (op : BinOp) (a b : ByteArray) : Option Value :=
  match op with
  | .add => if a.size + b.size ≤ 9223372036854775807 then some (.string (a ++ b)) else none
  | .eql => some (.bool (a.toList == b.toList))
  | .neq => some (.bool !(a.toList == b.toList))
  | .lss => some (.bool (Op.bytesLess a.toList b.toList))
  | .leq => some (.bool (Op.bytesLess a.toList b.toList || a.toList == b.toList))
  | .gtr => some (.bool !(Op.bytesLess a.toList b.toList || a.toList == b.toList))
  | .geq => some (.bool !(Op.bytesLess a.toList b.toList))
  | _ => none
def binD (op : BinOp) : D → D → Option D
  | .val (.int k a), .val (.int k' b) => match op with
    | .shl => (shI .shl k a b).map .val
    | .shr => (shI .shr k a b).map .val
    | op => if k = k' then (binI op k a b).map .val else none
  | .val (.string a), .val (.string b) => (binS op a b).map .val
  | _, _ => none
def binBD (neg : Bool) : D → D → Option D
  | .val (.bool a), .val (.bool b) => some (.val (.bool ((a == b) != neg)))
  | _, _ => none
def binPD (neg : Bool) : D → D → Option D
  | .val (.pointer none), .val (.pointer none) => some (.val (.bool (!neg)))
  | .ptr _ _, .val (.pointer none) | .rp _ _ _, .val (.pointer none) => some (.val (.bool neg))
  | _, _ => none

/-- Two scalars of a kind, as '==' of parts of a struct tells. -/
def eqV : SK → Value → Value → Option Bool
  | .i, .int k a, .int k' b => if k = k' then some (a == b) else none
  | .s, .string a, .string b => some (a.toList == b.toList)
  | .b, .bool a, .bool b => some (a == b)
  | _, _, _ => none
def eqDs : List SK → List D → List D → Option Bool
  | [], [], [] => some true
  | k :: ks, .val a :: xs, .val b :: ys => match eqV k a b, eqDs ks xs ys with
    | some p, some q => some (p && q)
    | _, _ => none
  | _, _, _ => none

def unD (op : UnOp) : D → Option D
  | .val (.int k n) => match op with
    | .neg => some (.val (.int k (k.wrap (0 - n))))
    | .xor => (binI .xor k (if k.signed then -1 else k.max) n).map .val
    | _ => none
  | .val (.bool b) => match op with
    | .not => some (.val (.bool !b))
    | _ => none
  | _ => none

/-- Cells put into others from a place on. -/
def putCells {α : Type} (cs : List α) (off : Nat) (vs : List α) : List α := vs.zipIdx.foldl (fun cs x => cs.set (off + x.2) x.1) cs

/-- The cells of a datum that may be stored. -/
def D.cl : D → Option (List D)
  | .agg ds => if ds.all D.one then some ds else none
  | d => if d.one then some [d] else none

def fillD (S : St) (cs : List D) : List (Nat × Nat × Operand) → Option (List D)
  | [] => some cs
  | (off, sz, x) :: rest => match look S x with
    | some d => match d.cl with
      | some ds => if ds.length = sz ∧ off + sz ≤ cs.length then fillD S (putCells cs off ds) rest else none
      | none => none
    | none => none

def cut (sz : Option Nat) (cs : List D) (off : Nat) : Option D :=
  match sz with
  | some n => if off + n ≤ cs.length then some (.agg ((cs.drop off).take n)) else none
  | none => cs[off]?

def St.live (S : St) (own : Option (Tag × Nat)) : Bool := own.all fun x => (S.tag x.1).isSome

def loadD (S : St) (sz : Option Nat) : D → Option D
  | .ptr o off => match S.box o with
    | some cs => cut sz cs off
    | none => none
  | .rp own cs off => if S.live own then cut sz cs off else none
  | _ => none

def faddrD (off : Nat) : D → Option D
  | .ptr o k => some (.ptr o (k + off))
  | .rp own cs k => some (.rp own cs (k + off))
  | _ => none

def iaddrSD (sz : Nat) : D → D → Option D
  | .sl tag es, .val (.int _ i) => if 0 ≤ i then match es[i.toNat]? with
      | some e => if e.length = sz then some (.rp (tag.map (·, i.toNat)) e 0) else none
      | none => none
    else none
  | _, _ => none

def iaddrAD (n sz : Nat) : D → D → Option D
  | .ptr o k, .val (.int _ i) => if 0 ≤ i ∧ i < n then some (.ptr o (k + i.toNat * sz)) else none
  | .rp own cs k, .val (.int _ i) => if 0 ≤ i ∧ i < n then some (.rp own cs (k + i.toNat * sz)) else none
  | _, _ => none

def idxAD (n sz : Nat) (agg : Bool) : D → D → Option D
  | .agg ds, .val (.int _ i) => if 0 ≤ i ∧ i < n then cut (if agg then some sz else none) ds (i.toNat * sz) else none
  | _, _ => none

def idxSD : D → D → Option D
  | .val (.string s), .val (.int _ i) => if 0 ≤ i then match s.data[i.toNat]? with
      | some b => some (.val (.int .u8 b.toNat))
      | none => none
    else none
  | _, _ => none

def boundD (S : St) (dflt : Nat) (top : Nat) : Option Operand → Option Nat
  | none => some dflt
  | some x => match look S x with
    | some (.val (.int _ i)) => if 0 ≤ i ∧ i ≤ top then some i.toNat else none
    | _ => none

def slcSD (S : St) (lo hi : Option Operand) : D → Option D
  | .val (.string s) => match boundD S s.size s.size hi with
    | some h => match boundD S 0 h lo with
      | some l => some (.val (.string (s.extract l h)))
      | none => none
    | none => none
  | _ => none

def slcD (S : St) (sz : Nat) (lo hi : Option Operand) : D → Option D
  | .sl none es => if es.all (fun e => e.length == sz) then match boundD S es.length es.length hi with
    | some h => match boundD S 0 h lo with
      | some l => some (.sl none ((es.take h).drop l))
      | none => none
    | none => none
    else none
  | _ => none

def lenSD : D → Option D
  | .val (.string s) => some (.val (.int .i64 s.size))
  | _ => none
def lenLD : D → Option D
  | .sl _ es => some (.val (.int .i64 es.length))
  | _ => none

def max2D (mx : Bool) : D → D → Option D
  | .val (.int k x), .val (.int _ y) => some (.val (.int k (if mx then (if y > x then y else x) else (if y < x then y else x))))
  | _, _ => none
def minmaxD (mx : Bool) (x : D) : List D → Option D
  | [] => some x
  | y :: ys => match max2D mx x y with
    | some z => minmaxD mx z ys
    | none => none

def extD (i : Nat) : D → Option D
  | .tup ds => ds[i]?
  | _ => none

def nilckD : D → Option D
  | .ptr o k => some (.ptr o k)
  | .rp own cs k => some (.rp own cs k)
  | .fn f a b => some (.fn f a b)
  | _ => none

def bytesOfD : List (List D) → Option (List UInt8)
  | [] => some []
  | [.val (.int .u8 n)] :: es => match bytesOfD es with
    | some bs => some (n.toNat.toUInt8 :: bs)
    | none => none
  | _ => none

/-- Operations that leave memory as it is. -/
def pop (S : St) : MOp → Option D
  | .mov x => look S x
  | .movS x => match look S x with | some (.val (.string s)) => some (.val (.string s)) | _ => none
  | .pick c a b => match look S c with
    | some (.val (.bool true)) => look S a
    | some (.val (.bool false)) => look S b
    | _ => none
  | .load sz x => match look S x with | some d => loadD S sz d | none => none
  | .bin op x y => match look S x, look S y with | some a, some b => binD op a b | _, _ => none
  | .binB neg x y => match look S x, look S y with | some a, some b => binBD neg a b | _, _ => none
  | .binP neg x y => match look S x, look S y with | some a, some b => binPD neg a b | _, _ => none
  | .eqs neg ks x y => match look S x, look S y with
    | some (.agg a), some (.agg b) => match eqDs ks a b with
        | some p => some (.val (.bool (p != neg)))
        | none => none
    | _, _ => none
  | .un op x => match look S x with | some d => unD op d | none => none
  | .conv k x => match look S x with | some (.val (.int _ n)) => some (.val (.int k (k.wrap n))) | _ => none
  | .faddr off x => match look S x with | some d => faddrD off d | none => none
  | .fld off sz x => match look S x with | some (.agg ds) => cut sz ds off | _ => none
  | .iaddrS sz x i => match look S x, look S i with | some a, some b => iaddrSD sz a b | _, _ => none
  | .iaddrA n sz x i => match look S x, look S i with | some a, some b => iaddrAD n sz a b | _, _ => none
  | .idxA n sz ag x i => match look S x, look S i with | some a, some b => idxAD n sz ag a b | _, _ => none
  | .idxS x i => match look S x, look S i with | some a, some b => idxSD a b | _, _ => none
  | .build zero parts => (fillD S zero parts).map .agg
  | .slcS x lo hi => match look S x with | some d => slcSD S lo hi d | none => none
  | .slc sz x lo hi => match look S x with | some d => slcD S sz lo hi d | none => none
  | .lenS x => match look S x with | some d => lenSD d | none => none
  | .lenL x => match look S x with | some d => lenLD d | none => none
  | .minmax mx xs => match looks S xs with | some (d :: ds) => minmaxD mx d ds | _ => none
  | .ext x i => match look S x with | some d => extD i d | none => none
  | .mkfn f first caps => match looks S first, looks S caps with | some a, some b => some (.fn f a b) | _, _ => none
  | .nilck x => match look S x with | some d => nilckD d | none => none
  | _ => none

/-! ### how an operation of the model is read -/
def zeroD (v : Value) : List D := v.cells.toList.map fun
  | .slice none 0 0 => .sl none []
  | c => .val c

def aggD : TypeDesc → Bool
  | .struct _ | .array _ _ => true
  | _ => false

def aggT (P : Program) (t : TypeId) : Option (Option Nat) :=
  match P.underlying t, P.info? t with
  | some d, some i => some (if aggD d then some i.size else none)
  | _, _ => none

def flatFs (ft : TypeId → Option (List SK)) : List Field → List SK → Option (List SK)
  | [], ks => some ks
  | f :: fs, ks => if f.name ≠ "_" ∧ f.offset = ks.length then match ft f.type with | some ms => flatFs ft fs (ks ++ ms) | none => none else none

def reps {α : Type} : Nat → List α → List α
  | 0, _ => []
  | n + 1, xs => xs ++ reps n xs

/-- A type all of whose cells are numbers, texts, bools: their kinds; '==' of it goes cell by cell. -/
def flatT (P : Program) : Nat → TypeId → Option (List SK)
  | 0, _ => none
  | d + 1, t => match P.underlying t with
    | some .bool => some [.b]
    | some (.int _) => some [.i]
    | some .string => some [.s]
    | some (.struct fs) => match P.info? t, flatFs (flatT P d) fs.toList [] with
      | some i, some ks => if i.size = ks.length ∧ P.stoodInHeld t = false then some ks else none
      | _, _ => none
    | some (.array n e) => match flatT P d e, P.info? e, P.info? t with
      | some ks, some i, some it => if i.size = ks.length ∧ it.size = n * ks.length then some (reps n ks) else none
      | _, _, _ => none
    | _ => none

def compParts (places : List (Nat × Nat)) : List (Nat × Operand) → Option (List (Nat × Nat × Operand))
  | [] => some []
  | (i, x) :: rest => match places[i]?, compParts places rest with
    | some p, some r => some ((p.1, p.2, x) :: r)
    | _, _ => none

def places (P : Program) (fs : List Field) : Option (List (Nat × Nat)) := fs.mapM fun f => (P.info? f.type).map fun i => (f.offset, i.size)

def isNilSl : Operand → Bool
  | .const (.slice none 0 0) => true
  | _ => false

def compB (P : Program) (b : Builtin) (args : List Operand) (ts : List TypeId) : Option MOp :=
  match b with
  | .len => match args, ts with
    | [x], [t] => match P.underlying t with
      | some .string => some (.lenS x)
      | some (.slice _) => some (.lenL x)
      | _ => none
    | _, _ => none
  | .max => some (.minmax true args)
  | .min => some (.minmax false args)
  | .append => match args, ts with
    | [x, y], [t, u] => if t = u then match P.underlying t with
        | some (.slice e) => match P.info? e with
          | some i => match i.zero with
            | some z => if 0 < i.size ∧ z.cells.size = i.size then some (.append e i.size i.bytes x y) else none
            | none => none
          | none => none
        | _ => none
      else none
    | _, _ => none
  | _ => none

def compOp (P : Program) (o : Oper) : Option MOp :=
  match o.op with
  | .move x => some (.mov x)
  | .assign x => if isNilSl x then match P.underlying o.type with
      | some (.slice e) => match P.info? e with | some i => some (.nilsl e i.size) | none => none
      | _ => none
    else some (.mov x)
  | .pick c a b => some (.pick c a b)
  | .alloc t => match P.info? t with
    | some i => match i.zero with | some z => some (.alloc t (zeroD z)) | none => none
    | none => none
  | .box t x => match P.info? t with | some i => some (.box t i.size x) | none => none
  | .build t parts => match P.underlying t, P.info? t with
    | some (.struct fs), some i => match i.zero, places P fs.toList with
      | some z, some pl => match compParts pl parts.toList with
        | some ps => some (.build (zeroD z) ps)
        | none => none
      | _, _ => none
    | some (.array _ e), some i => match i.zero, P.info? e with
      | some z, some ie => some (.build (zeroD z) (parts.toList.map fun p => (p.1 * ie.size, ie.size, p.2)))
      | _, _ => none
    | _, _ => none
  | .buildSlice t len parts => match P.underlying t with
    | some (.slice e) => match P.info? e with
      | some i => match i.zero with
        | some z => if 0 < i.size ∧ z.cells.size = i.size ∧ len * i.size ≤ 2 ^ 24 then
            some (.bslice e i.size (zeroD z) len (parts.toList.map fun p => (p.1 * i.size, i.size, p.2))) else none
        | none => none
      | none => none
    | _ => none
  | .load t x => match aggT P t with | some sz => some (.load sz x) | none => none
  | .store t x v => match P.info? t with | some i => some (.store i.size x v) | none => none
  | .nilCheck x => some (.nilck x)
  | .binOp op t x y _ => match P.underlying t with
    | some .bool => match op with
      | .eql => some (.binB false x y)
      | .neq => some (.binB true x y)
      | _ => none
    | some (.pointer _) => match op with
      | .eql => some (.binP false x y)
      | .neq => some (.binP true x y)
      | _ => none
    | some (.int _) | some .string => some (.bin op x y)
    | some (.struct _) | some (.array _ _) => if P.eqGuardType P.depth t = false then match op, flatT P 20 t with
      | .eql, some ks => some (.eqs false ks x y)
      | .neq, some ks => some (.eqs true ks x y)
      | _, _ => none
      else none
    | some (.slice _) => if isNilSl y then match op with
        | .eql => some (.isnil false x)
        | .neq => some (.isnil true x)
        | _ => none
      else none
    | _ => none
  | .unOp op _ x => some (.un op x)
  | .convert s d x => match P.underlying s, P.underlying d with
    | some (.int _), some (.int k) => some (.conv k x)
    | some .string, some .string => some (.movS x)
    | some (.slice e), some .string => match P.underlying e with | some (.int .u8) => some (.b2s x) | _ => none
    | _, _ => none
  | .makeFunc fn first caps => match fn with
    | .func f => some (.mkfn f first.toList caps.toList)
    | _ => none
  | .slice t x lo hi mx => match mx with
    | none => match P.underlying t with
      | some .string => some (.slcS x lo hi)
      | some (.slice e) => match P.info? e with | some i => some (.slc i.size x lo hi) | none => none
      | _ => none
    | some _ => none
  | .fieldAddr t x f => match P.underlying t with
    | some (.struct fs) => match fs[f]? with
      | some fd => match P.info? fd.type with
        | some i => if i.size = 0 then none else some (.faddr fd.offset x)
        | none => none
      | none => none
    | _ => none
  | .field t x f => match P.underlying t with
    | some (.struct fs) => match fs[f]? with
      | some fd => match aggT P fd.type with | some sz => some (.fld fd.offset sz x) | none => none
      | none => none
    | _ => none
  | .indexAddr t x i => match P.underlying t with
    | some (.slice e) => match P.info? e with | some ti => some (.iaddrS ti.size x i) | none => none
    | some (.array n e) => match P.info? e with | some ti => some (.iaddrA n ti.size x i) | none => none
    | _ => none
  | .index t x i => match P.underlying t with
    | some .string => some (.idxS x i)
    | some (.array n e) => match aggT P e, P.info? e with
      | some a, some ti => some (.idxA n ti.size a.isSome x i)
      | _, _ => none
    | _ => none
  | .extract t i => some (.ext t i)
  | .call c => match c.callee with
    | .value f => some (.call f c.args.toList .pure)
    | .builtin b => compB P b c.args.toList c.argTypes.toList
    | .invoke _ _ => none
  | _ => none

def compO (P : Program) (ops : Array Oper) (o : Oper) : Option MO :=
  match compOp P o with
  | some m => match o.guard with
    | none => some { dst := o.dst, op := m, guard := none }
    | some (j, want) => match ops[j]? with
      | some g => match g.dst with
        | some t => some { dst := o.dst, op := m, guard := some (t, want) }
        | none => none
      | none => none
  | none => none

end Go.Vm
