/- The canonical machine: values with deep rows, its operations, code and calls. -/
import Derived.Orders
import Derived.Below
namespace Go.Proofs.XVai
open Go
set_option linter.unusedVariables false

inductive HV where
  | bool (b : Bool)
  | int (k : IntKind) (n : Int)
  | str (s : ByteArray)
  | agg (cs : List HV)
  | tup (vs : List HV)
  | nils
  | lst (rows : List (List HV))
  | sl (k n : Nat)
  | ptr (k n i o : Nat)
  | iptr (rows : List (List HV)) (i o : Nat)
  | nilptr
  | nilmap
  | nilfn
  | map (k : Nat)
  | fn (f : Nat) (caps : List HV)
  | gp (g : Nat)
  deriving Inhabited

inductive Ob where
  | dummy
  | cells (fr : Bool) (rows : List (List HV))
  | map (es : List (HV × HV))
  deriving Inhabited

abbrev St := List Ob
abbrev Tm := Nat → HV

inductive Sh where
  | int (k : IntKind) | bool | str
  | strct (fs : List (Nat × Nat × Nat))
  | arr (len elem : Nat)
  | slice (elem : Nat)
  | map (key elem : Nat)
  | ptr (elem : Nat)
  | func

structure TI where
  size : Nat
  agg : Bool
  zero : List HV
  sh : Sh
  eqok : Bool

structure Sys where
  tab : Nat → Option TI
  fn : Nat → Option Func
  byref : Nat → Bool
  keep : Nat → Bool
  prom : Nat → Bool
  muta : Nat → Nat → Bool
  glob : Nat → Option (List HV)

def HV.cells : HV → List HV
  | .agg cs => cs
  | v => [v]

/-- A value that may stand inside an immutable row. -/
def pureC : HV → Bool
  | .bool _ | .int _ _ | .str _ | .lst _ | .nilptr | .nilmap | .nilfn | .gp _ => true
  | _ => false

def isCell : HV → Bool
  | .agg _ | .tup _ => false
  | _ => true

def upd (T : Tm) (d : Nat) (v : HV) : Tm := fun t => if t = d then v else T t
def put (T : Tm) (d : Option Nat) (v : HV) : Tm := match d with | some d => upd T d v | none => T

def ofCell : Value → HV
  | .bool b => .bool b
  | .int k n => .int k n
  | .string s => .str s
  | .pointer none => .nilptr
  | .slice none 0 0 => .nils
  | .map none => .nilmap
  | .nilFunc => .nilfn
  | _ => .tup [.nilptr]
def ofVal : Value → HV
  | .agg cs => .agg (cs.toList.map ofCell)
  | v => ofCell v

def ev (T : Tm) : Operand → HV
  | .tmp t => T t
  | .const v => ofVal v
  | .func f => .fn f []
  | .global g => .gp g

/-! ### rows -/
def getRow (Y : Sys) (S : St) : HV → Option (List HV × Nat)
  | .ptr k n i o => match S[k]? with
    | some (.cells _ rows) => if rows.length = n then (rows[i]?).map fun r => (r, o) else none
    | _ => none
  | .iptr rows i o => (rows[i]?).map fun r => (r, o)
  | .gp g => (Y.glob g).map fun r => (r, 0)
  | _ => none

def part (agg : Bool) (size : Nat) (row : List HV) (off : Nat) : Option HV :=
  if agg then (if off + size ≤ row.length then some (.agg ((row.drop off).take size)) else none) else row[off]?

def setCells (row : List HV) (off : Nat) : List HV → List HV
  | [] => row
  | c :: cs => setCells (row.set off c) (off + 1) cs

def newOb (pl : Option Nat) (S : St) (o : Ob) : Nat × St := match pl with
  | none => (S.length, S ++ [o])
  | some k => (k, S.set k o)

def mapMS {α β : Type} (f : α → St → Option (β × St)) : List α → St → Option (List β × St)
  | [], S => some ([], S)
  | x :: xs, S => match f x S with
    | some (y, S1) => match mapMS f xs S1 with
      | some (ys, S2) => some (y :: ys, S2)
      | none => none
    | none => none

/-- Rows that are one's own from number n0 on become immutable. -/
def frzC (n0 : Nat) : Nat → HV → St → Option (HV × St)
  | d, .nils, S => some (.lst [], S)
  | d, .sl k n, S => if k < n0 then some (.sl k n, S) else match d with
    | 0 => none
    | d + 1 => match S[k]? with
      | some (.cells fr rows) => if rows.length = n then
          match mapMS (mapMS (frzC n0 d)) rows S with
          | some (rows', S1) => if rows'.all (fun r => r.all pureC) then some (.lst rows', if fr then S1 else S1.set k (.cells true rows)) else none
          | none => none
        else none
      | _ => none
  | d, v, S => some (v, S)
def frzV (n0 : Nat) : HV → St → Option (HV × St)
  | .agg cs, S => match mapMS (frzC n0 6) cs S with
    | some (cs', S') => some (.agg cs', S')
    | none => none
  | v, S => frzC n0 6 v S
def frzR (n0 : Nat) : HV → St → Option (HV × St)
  | .tup vs, S => match mapMS (frzV n0) vs S with
    | some (vs', S') => some (.tup vs', S')
    | none => none
  | v, S => frzV n0 v S

/-- Fields that are nil become rows of one's own; fl: which may be stored into, by their places. -/
def promote (fl : Nat → Bool) : Nat → List HV → St → List HV × St
  | _, [], S => ([], S)
  | j, .nils :: cs, S => let (cs', S') := promote fl (j + 1) cs (S ++ [.cells (!fl j) []]); (.sl S.length 0 :: cs', S')
  | j, c :: cs, S => let (cs', S') := promote fl (j + 1) cs S; (c :: cs', S')

/-! ### integers -/
def hbin (op : BinOp) (x y : HV) : Option HV := match x, y with
  | .int k a, .int k' b => match op with
    | .shl => if b < 0 then none else some (.int k (k.wrap (a * 2 ^ (min b.toNat k.bits))))
    | .shr => if b < 0 then none else some (.int k (a.fdiv (2 ^ (min b.toNat k.bits))))
    | _ => if k = k' then match op with
      | .add => some (.int k (k.wrap (a + b)))
      | .sub => some (.int k (k.wrap (a - b)))
      | .mul => some (.int k (k.wrap (a * b)))
      | .quo => if b = 0 then none else some (.int k (k.wrap (a.tdiv b)))
      | .rem => if b = 0 then none else some (.int k (a.tmod b))
      | .and => some (.int k (k.wrap (BitVec.ofInt k.bits a &&& BitVec.ofInt k.bits b).toNat))
      | .or => some (.int k (k.wrap (BitVec.ofInt k.bits a ||| BitVec.ofInt k.bits b).toNat))
      | .xor => some (.int k (k.wrap (BitVec.ofInt k.bits a ^^^ BitVec.ofInt k.bits b).toNat))
      | .andNot => some (.int k (k.wrap (BitVec.ofInt k.bits a &&& ~~~BitVec.ofInt k.bits b).toNat))
      | .eql => some (.bool (a == b))
      | .neq => some (.bool (a != b))
      | .lss => some (.bool (decide (a < b)))
      | .leq => some (.bool (decide (a ≤ b)))
      | .gtr => some (.bool (decide (a > b)))
      | .geq => some (.bool (decide (a ≥ b)))
      | _ => none
      else none
  | .str a, .str b => match op with
    | .add => if a.size + b.size ≤ 9223372036854775807 then some (.str (a ++ b)) else none
    | .eql => some (.bool (a.toList == b.toList))
    | .neq => some (.bool !(a.toList == b.toList))
    | _ => none
  | _, _ => none

/-- Equality of two values of one plain type: cell by cell. -/
def eqC : HV → HV → Option Bool
  | .bool a, .bool b => some (a == b)
  | .int k a, .int k' b => if k = k' then some (a == b) else none
  | .nilptr, .nilptr => some true
  | .nilptr, .ptr .. => some false
  | .ptr .., .nilptr => some false
  | _, _ => none
def eqL : List HV → List HV → Option Bool
  | [], [] => some true
  | a :: as, b :: bs => match eqC a b, eqL as bs with
    | some x, some y => some (x && y)
    | _, _ => none
  | _, _ => none


/-! ### operations -/
def tsize (Y : Sys) (t : Nat) : Option Nat := (Y.tab t).map (·.size)

/-- Parts of a struct or an array are put into its cells. -/
def place (Y : Sys) (sh : Sh) (i : Nat) : Option (Nat × Nat) := match sh with
  | .strct fs => (fs[i]?).map fun f => (f.2.1, f.2.2)
  | .arr _ e => (tsize Y e).map fun z => (i * z, z)
  | _ => none
def fillC (Y : Sys) (sh : Sh) : List (Nat × HV) → List HV → Option (List HV)
  | [], row => some row
  | (i, v) :: rest, row => match place Y sh i with
    | some (off, z) => if v.cells.length = z ∧ off + z ≤ row.length then fillC Y sh rest (setCells row off v.cells) else none
    | none => none
/-- Parts of a slice literal. -/
def fillS (z : Nat) : List (Nat × HV) → List (List HV) → Option (List (List HV))
  | [], rows => some rows
  | (i, v) :: rest, rows => if v.cells.length = z ∧ i < rows.length then fillS z rest (rows.set i v.cells) else none

def buildable (Y : Sys) (sh : Sh) : Bool := match sh with
  | .strct _ => true
  | .arr _ e => (Y.tab e).isSome
  | _ => false

def zrow (fl : Nat → Bool) (pr : Bool) (z : List HV) (S : St) : List HV × St := if pr then promote fl 0 z S else (z, S)
def zrows (fl : Nat → Bool) (pr : Bool) (z : List HV) : Nat → St → List (List HV) × St
  | 0, S => ([], S)
  | n + 1, S => let (r, S1) := zrow fl pr z S; let (rs, S2) := zrows fl pr z n S1; (r :: rs, S2)

def asNat (n : Int) : Option Nat := if 0 ≤ n then some n.toNat else none

def lim : Nat := 4294967296

/-- What is appended: the rows of the second operand. -/
def rowsOf (S : St) : HV → Option (List (List HV))
  | .nils => some []
  | .lst rows => some rows
  | .sl k n => match S[k]? with
    | some (.cells _ rows) => if rows.length = n then some rows else none
    | _ => none
  | _ => none

def cappend (mu : Bool) (pl : Option Nat) (S : St) (z : Nat) (x y : HV) : Option (HV × St) :=
  match rowsOf S y with
  | none => none
  | some rs => if rs.all (fun r => r.length == z && r.all isCell) then match x with
    | .nils => if rs.isEmpty then some (.nils, S) else if rs.length ≤ lim then
        let (k, S') := newOb pl S (.cells (!mu) rs); some (.sl k rs.length, S') else none
    | .sl k n => match S[k]? with
      | some (.cells fr rows) => if rows.length = n ∧ n + rs.length ≤ lim ∧ rows.all (fun r => r.length == z) then
          some (.sl k (n + rs.length), S.set k (.cells fr (rows ++ rs))) else none
      | _ => none
    | _ => none
    else none

def bound (d : Nat) : Option HV → Option Nat
  | none => some d
  | some (.int _ n) => if 0 ≤ n then some n.toNat else none
  | _ => none
def cslice (Y : Sys) (S : St) (t : Nat) (x : HV) (lo hi : Option HV) : Option (HV × St) :=
  match Y.tab t with
  | none => none
  | some ti => match ti.sh with
    | .str => match x with
      | .str s => match bound 0 lo, bound s.size hi with
        | some l, some h => if l ≤ h ∧ h ≤ s.size then some (.str (s.extract l h), S) else none
        | _, _ => none
      | _ => none
    | .slice e => match tsize Y e, frzC 0 6 x S with
      | some z, some (.lst rows, S1) => match bound 0 lo, bound rows.length hi with
        | some l, some h => if l ≤ h ∧ h ≤ rows.length ∧ rows.all (fun r => r.length == z) then some (.lst ((rows.take h).drop l), S1) else none
        | _, _ => none
      | _, _ => none
    | _ => none

def cindexAddr (Y : Sys) (S : St) (t : Nat) (x i : HV) : Option HV :=
  match i with
  | .int _ n => match Y.tab t with
    | some ti => match ti.sh, x with
      | .slice e, .lst rows => match asNat n with
        | some j => if j < rows.length ∧ (rows[j]?).map (·.length) = tsize Y e then some (.iptr rows j 0) else none
        | none => none
      | .slice e, .sl k m => match asNat n, S[k]? with
        | some j, some (.cells _ rows) => if rows.length = m ∧ j < m ∧ (rows[j]?).map (·.length) = tsize Y e then some (.ptr k m j 0) else none
        | _, _ => none
      | .arr len e, .ptr k m r o => match asNat n, tsize Y e with
        | some j, some z => if j < len then some (.ptr k m r (o + j * z)) else none
        | _, _ => none
      | .arr len e, .iptr rows r o => match asNat n, tsize Y e with
        | some j, some z => if j < len then some (.iptr rows r (o + j * z)) else none
        | _, _ => none
      | _, _ => none
    | none => none
  | _ => none

def cfieldAddr (Y : Sys) (t : Nat) (x : HV) (f : Nat) : Option HV :=
  match Y.tab t with
  | some ti => match ti.sh with
    | .strct fs => match fs[f]? with
      | some (_, off, z) => if z = 0 then none else match x with
        | .ptr k n i o => some (.ptr k n i (o + off))
        | .iptr rows i o => some (.iptr rows i (o + off))
        | _ => none
      | none => none
    | _ => none
  | none => none

def cload (Y : Sys) (S : St) (t : Nat) (x : HV) : Option HV :=
  match Y.tab t, getRow Y S x with
  | some ti, some (row, o) => part ti.agg ti.size row o
  | _, _ => none

def cstore (Y : Sys) (S : St) (t : Nat) (x v : HV) : Option St :=
  match x with
  | .ptr k n i o => match tsize Y t, S[k]? with
    | some z, some (.cells false rows) => match rows[i]? with
      | some row => if rows.length = n ∧ v.cells.length = z ∧ o + z ≤ row.length ∧ v.cells.all isCell then
          some (S.set k (.cells false (rows.set i (setCells row o v.cells)))) else none
      | none => none
    | _, _ => none
  | _ => none

def mapGet (key : HV) : List (HV × HV) → Option (Option HV)
  | [] => some none
  | (k, v) :: es => match eqL key.cells k.cells with
    | some true => some (some v)
    | some false => mapGet key es
    | none => none
def mapSet (key v : HV) : List (HV × HV) → Option (List (HV × HV))
  | [] => some [(key, v)]
  | (k, u) :: es => match eqL key.cells k.cells with
    | some true => some ((k, v) :: es)
    | some false => (mapSet key v es).map ((k, u) :: ·)
    | none => none

/-- May it be compared, as a key of this type? -/
def keyB (ti : TI) (x : HV) : Bool := ti.eqok && x.cells.length == ti.size && (match x with | .agg _ => ti.agg | v => !ti.agg && isCell v)

def zeroOf (ti : TI) : Option HV := if ti.agg then some (.agg ti.zero) else match ti.zero with | [c] => some c | _ => none

def cconvert (Y : Sys) (src dst : Nat) (x : HV) (S : St) : Option HV :=
  match Y.tab src, Y.tab dst with
  | some si, some ti => match si.sh, ti.sh, x with
    | .int _, .int k, .int _ n => some (.int k (k.wrap n))
    | _, _, _ => none
  | _, _ => none

/-- One operation. place: where a new object goes (none: behind all others). -/
def cop (Y : Sys) (fid : Nat) (call : Nat → List HV → St → Option (HV × St)) (pl : Option Nat) (o : Oper) (T : Tm) (S : St) : Option (HV × St) :=
  let e := ev T
  let pr := Y.prom fid && pl.isNone
  match o.op with
  | .move x | .assign x => some (e x, S)
  | .pick c a b => match e c with
    | .bool true => some (e a, S)
    | .bool false => some (e b, S)
    | _ => none
  | .alloc t => match Y.tab t with
    | some ti => let (k, S2) := newOb pl S (.cells false [ti.zero]); some (.ptr k 1 0 0, S2)
    | none => none
  | .box t x => let (k, S2) := newOb pl S (.cells false [(e x).cells]); some (.ptr k 1 0 0, S2)
  | .build t parts => match Y.tab t with
    | some ti => let (row, S1) := zrow (Y.muta fid) pr ti.zero S
      if buildable Y ti.sh then match fillC Y ti.sh (parts.toList.map fun (i, x) => (i, e x)) row with
        | some row' => some (.agg row', S1)
        | none => none
      else none
    | none => none
  | .buildSlice t len parts => match Y.tab t with
    | some ti => match ti.sh with
      | .slice el => match Y.tab el with
        | some te => if len = 0 then (if parts.isEmpty then some (.nils, S) else none) else if len * te.size ≤ 16777216 then
            match fillS te.size (parts.toList.map fun (i, x) => (i, e x)) (List.replicate len te.zero) with
            | some rows => match mapMS (mapMS (frzC 0 6)) rows S with
              | some (rows', S1) => if rows'.all (fun r => r.all pureC) then some (.lst rows', S1) else none
              | none => none
            | none => none
          else none
        | none => none
      | _ => none
    | none => none
  | .load t x => (cload Y S t (e x)).map fun v => (v, S)
  | .store t x v => (cstore Y S t (e x) (e v)).map fun S' => (.tup [], S')
  | .nilCheck x => match e x with
    | .ptr k n i o => some (.ptr k n i o, S)
    | .iptr rows i o => some (.iptr rows i o, S)
    | .gp g => some (.gp g, S)
    | _ => none
  | .binOp op t x y _ => match e x, e y with
    | .agg as, .agg bs => match Y.tab t with
      | some ti => if ti.eqok && ti.agg && as.length == ti.size && bs.length == ti.size then match op, eqL as bs with
          | .eql, some b => some (.bool b, S)
          | .neq, some b => some (.bool !b, S)
          | _, _ => none else none
      | none => none
    | .bool a, .bool b => match op with
      | .eql => match Y.tab t with | some { sh := .bool, .. } => some (.bool (a == b), S) | _ => none
      | .neq => match Y.tab t with | some { sh := .bool, .. } => some (.bool !(a == b), S) | _ => none
      | _ => none
    | .nilptr, .nilptr => match Y.tab t with
      | some { sh := .ptr _, .. } => (match op with | .eql => some (.bool true, S) | .neq => some (.bool false, S) | _ => none)
      | _ => none
    | .ptr .., .nilptr => match Y.tab t with
      | some { sh := .ptr _, .. } => (match op with | .eql => some (.bool false, S) | .neq => some (.bool true, S) | _ => none)
      | _ => none
    | a, b => (hbin op a b).map fun v => (v, S)
  | .unOp op _ x => match op, e x with
    | .not, .bool b => some (.bool !b, S)
    | .neg, .int k n => some (.int k (k.wrap (0 - n)), S)
    | _, _ => none
  | .convert src dst x => (cconvert Y src dst (e x) S).map fun v => (v, S)
  | .makeFunc f first captured => match f with
    | .func g => if first.isEmpty then some (.fn g (captured.toList.map e), S) else none
    | _ => none
  | .makeMap t none => let (k, S2) := newOb pl S (.map []); some (.map k, S2)
  | .makeSlice t l c => match Y.tab t with
    | some ti => match ti.sh, e l, e c with
      | .slice el, .int _ n, .int _ m => match Y.tab el, asNat n with
        | some te, some k => if n = m ∧ k ≤ lim then
            let (rows, S1) := zrows (Y.muta fid) pr te.zero k S
            let (j, S2) := newOb pl S1 (.cells (!Y.muta fid 1000) rows); some (.sl j k, S2) else none
        | _, _ => none
      | _, _, _ => none
    | none => none
  | .slice t x lo hi none => cslice Y S t (e x) (lo.map e) (hi.map e)
  | .fieldAddr t x f => (cfieldAddr Y t (e x) f).map fun v => (v, S)
  | .indexAddr t x i => (cindexAddr Y S t (e x) (e i)).map fun v => (v, S)
  | .index t x i => match Y.tab t with
    | some ti => match ti.sh, e x, e i with
      | .str, .str s, .int _ n => match asNat n with
        | some j => match s[j]? with
          | some b => some (.int .u8 b.toNat, S)
          | none => none
        | none => none
      | _, _, _ => none
    | none => none
  | .lookup t x i commaOk => match Y.tab t with
    | some ti => match ti.sh, e x with
      | .map kt el, .map k => match S[k]?, Y.tab kt, Y.tab el with
        | some (.map es), some tk, some te => match mapGet (e i) es, zeroOf te with
          | some r, some z => if keyB tk (e i) && es.all (fun p => keyB tk p.1) then
              some (if commaOk then .tup [r.getD z, .bool r.isSome] else r.getD z, S) else none
          | _, _ => none
        | _, _, _ => none
      | _, _ => none
    | none => none
  | .mapUpdate t m k v => match Y.tab t with
    | some ti => match ti.sh, e m with
      | .map kt el, .map j => match S[j]?, Y.tab kt with
        | some (.map es), some tk => match mapSet (e k) (e v) es with
          | some es' => if keyB tk (e k) && es.all (fun p => keyB tk p.1) then some (.tup [], S.set j (.map es')) else none
          | none => none
        | _, _ => none
      | _, _ => none
    | none => none
  | .extract x i => match e x with
    | .tup vs => (vs[i]?).map fun v => (v, S)
    | _ => none
  | .call c => match c.callee with
    | .builtin .len => match c.args.toList.map e, c.argTypes.toList with
      | [x], [t] => match Y.tab t with
        | some ti => match ti.sh, x with
          | .str, .str s => some (.int .i64 s.size, S)
          | .slice _, .nils => some (.int .i64 0, S)
          | .slice _, .lst rows => some (.int .i64 rows.length, S)
          | .slice _, .sl k n => some (.int .i64 n, S)
          | _, _ => none
        | none => none
      | _, _ => none
    | .builtin .append => match c.args.toList.map e, c.argTypes.toList with
      | [x, y], [t, t2] => match Y.tab t, Y.tab t2 with
        | some ti, some ti2 => match ti.sh, ti2.sh with
          | .slice el, .slice _ => match tsize Y el with
            | some z => cappend (Y.muta fid 1000) pl S z x y
            | none => none
          | _, _ => none
        | _, _ => none
      | _, _ => none
    | .builtin .max => match c.args.toList.map e with
      | [.int k a, .int k' b] => some (.int k (if b > a then b else a), S)
      | _ => none
    | .value f => match e f with
      | .fn g caps => if Y.byref g then call g (c.args.toList.map e ++ caps) S else
          match mapMS (frzV 0) (c.args.toList.map e) S with
          | some (args, S1) => call g (args ++ caps) S1
          | none => none
      | _ => none
    | _ => none
  | _ => none

/-- May the operation change what is there? -/
def isE (o : Oper) : Bool := match o.op with
  | .store .. | .mapUpdate .. => true
  | .call { callee := .builtin .len, .. } | .call { callee := .builtin .max, .. } => false
  | .call _ => true
  | _ => false

/-- The objects that an operation that changes nothing looks at. -/
def reads (o : Oper) (T : Tm) : List Nat :=
  let of : HV → List Nat | .ptr k .. => [k] | .sl k _ => [k] | .map k => [k] | _ => []
  match o.op with
  | .load _ x => of (ev T x)
  | .indexAddr _ x _ => of (ev T x)
  | .lookup _ x _ _ => of (ev T x)
  | .slice _ x _ _ _ => of (ev T x)
  | _ => []

def wantedC (ops : Array Oper) (o : Oper) (T : Tm) : Bool := match o.guard with
  | none => true
  | some (j, want) => match (ops[j]?).bind (·.dst) with
    | some d => (match T d with | .bool b => b == want | _ => false)
    | none => false

/-- A region in the order of its text. -/
def cops (Y : Sys) (fid : Nat) (call : Nat → List HV → St → Option (HV × St)) (ops : Array Oper) : List Oper → Tm → St → Option (Tm × St)
  | [], T, S => some (T, S)
  | o :: rest, T, S => if wantedC ops o T then match cop Y fid call none o T S with
      | some (v, S') => cops Y fid call ops rest (put T o.dst v) S'
      | none => none
    else cops Y fid call ops rest (put T o.dst (.tup [])) S

/-! ### a region that draws its order -/
structure Log where
  idx : Nat
  reads : List Nat
  eff : Option (St × St)

def sameAt (A B : St) (k : Nat) : Prop := A[k]? = B[k]?

def anc (ops : Array Oper) (i j : Nat) : Bool := ((Region.before ops).getD j 0).testBit i

/-- Is the order of two operations told, or does none of them see the other? -/
def apartL (ops : Array Oper) (x y : Log) : Prop :=
  anc ops x.idx y.idx = true ∨
    ((∀ A B, x.eff = some (A, B) → ∀ k ∈ y.reads, sameAt A B k) ∧ (∀ A B, y.eff = some (A, B) → ∀ k ∈ x.reads, sameAt A B k))

/-- What an operation that is none of those keeps. -/
def quietOp (o : Oper) (T : Tm) (slot : Nat) (S S' : St) : Prop :=
  isE o = false → S'.length = S.length ∧ (∀ k, k ≠ slot → S'[k]? = S[k]?) ∧
    match o.op with
    | .buildSlice _ _ parts => ∀ p ∈ parts.toList, ∀ c ∈ (ev T p.2).cells, (pureC c = true ∨ c = .nils)
    | .slice _ x _ _ _ => ∀ k n fr rows, ev T x = .sl k n → S[k]? = some (.cells fr rows) → ∀ r ∈ rows, ∀ c ∈ r, pureC c = true
    | _ => True

open Classical in
noncomputable def copsD (Y : Sys) (fid : Nat) (call : Nat → List HV → St → Option (HV × St)) (ops : Array Oper) (base : Nat) : Nat → List Oper → List Log → Tm → St → Option (Tm × St)
  | _, [], _, T, S => some (T, S)
  | i, o :: rest, L, T, S => if wantedC ops o T then match cop Y fid call (some (base + i)) o T S with
      | some (v, S') =>
        let l : Log := ⟨i, if isE o then [] else reads o T, if isE o then some (S, S') else none⟩
        if quietOp o T (base + i) S S' ∧ ∀ x ∈ L, apartL ops x l then copsD Y fid call ops base (i + 1) rest (L ++ [l]) (put T o.dst v) S' else none
      | none => none
    else copsD Y fid call ops base (i + 1) rest L (put T o.dst (.tup [])) S

/-! ### code -/
inductive Ex where
  | norm
  | exit (id : Nat)
  | ret
  deriving DecidableEq

abbrev Res := Option (Ex × Tm × St)

def iter : Nat → (Tm → St → Res) → Tm → St → Res
  | 0, _, _, _ => none
  | m + 1, f, T, S => match f T S with
    | some (.norm, T', S') => iter m f T' S'
    | r => r

noncomputable def crun (Y : Sys) (fid : Nat) (call : Nat → List HV → St → Option (HV × St)) (m : Nat) : Code → Tm → St → Res
  | .skip, T, S => some (.norm, T, S)
  | .region _ ops false, T, S => match cops Y fid call ops ops.toList T S with
    | some (T', S') => some (.norm, T', S')
    | none => none
  | .region _ ops true, T, S => match copsD Y fid call ops S.length 0 ops.toList [] T (S ++ List.replicate ops.size .dummy) with
    | some (T', S') => some (.norm, T', S')
    | none => none
  | .seq a b, T, S => match crun Y fid call m a T S with
    | some (.norm, T', S') => crun Y fid call m b T' S'
    | r => r
  | .cond c a b, T, S => match ev T c with
    | .bool true => crun Y fid call m a T S
    | .bool false => crun Y fid call m b T S
    | _ => none
  | .block id b, T, S => match crun Y fid call m b T S with
    | some (.exit j, T', S') => if j = id then some (.norm, T', S') else some (.exit j, T', S')
    | r => r
  | .loop b, T, S => iter m (crun Y fid call m b) T S
  | .exit id, T, S => some (.exit id, T, S)
  | .ret, T, S => some (.ret, T, S)
  | _, _, _ => none

/-! ### calls -/
def idC (n0 : Nat) : HV → Bool
  | .sl k _ => k < n0
  | .ptr k .. => k < n0
  | .map k => k < n0
  | .fn _ caps => caps.all fun c => match c with
    | .sl k _ => k < n0
    | .ptr k .. => k < n0
    | .map k => k < n0
    | .fn _ [] => true
    | .fn _ _ => false
    | .agg _ => false
    | .tup _ => false
    | _ => true
  | .agg _ => false
  | .tup _ => false
  | _ => true
def idV (n0 : Nat) : HV → Bool
  | .agg cs => cs.all (idC n0)
  | v => idC n0 v
def idR (n0 : Nat) : HV → Bool
  | .tup vs => vs.all (idV n0)
  | v => idV n0 v
def idO (n0 : Nat) : Ob → Bool
  | .dummy => true
  | .cells _ rows => rows.all fun r => r.all (idC n0)
  | .map es => es.all fun e => idV n0 e.1 && idV n0 e.2

def oldOk (n0 : Nat) (S S' : St) : Prop := n0 ≤ S'.length ∧ ∀ k, k < n0 → S'[k]? = S[k]? ∨ ∃ o, S'[k]? = some o ∧ idO n0 o = true

def resV (Y : Sys) (T : Tm) (S : St) : ResultVar → Option HV
  | .tmp t => some (T t)
  | .cell a t => cload Y S t (T a)
def resVs (Y : Sys) (T : Tm) (S : St) : List ResultVar → Option (List HV)
  | [] => some []
  | r :: rs => match resV Y T S r, resVs Y T S rs with
    | some v, some vs => some (v :: vs)
    | _, _ => none
def resTup : List HV → HV
  | [v] => v
  | vs => .tup vs

def tm0 (args : List HV) : Tm := fun t => args.getD t (.tup [])

open Classical in
noncomputable def cret (Y : Sys) (f : Nat) (fn : Func) (S : St) : Res → Option (HV × St)
  | some (.exit _, _, _) => none
  | some (_, T', S') => match resVs Y T' S' fn.results.toList with
    | some vs => if Y.keep f then some (resTup vs, S') else match frzR S.length (resTup vs) S' with
      | some (v, S2) => if idR S.length v = true ∧ oldOk S.length S S2 then some (v, S2.take S.length) else none
      | none => none
    | none => none
  | none => none

noncomputable def ccall (Y : Sys) : Nat → Nat → List HV → St → Option (HV × St)
  | 0, _, _, _ => none
  | m + 1, f, args, S => match Y.fn f with
    | some fn => match fn.body with
      | some c => if args.length ≤ fn.ntmps then cret Y f fn S (crun Y f (ccall Y m) m c (tm0 args) S) else none
      | none => none
    | none => none

end Go.Proofs.XVai
