/- The canonical machine on which the functions are run, contracts of functions, and what they mean, part 1 of 5. Conditions: none. -/
import Derived.Orders
import Derived.Below
import Derived.Laws.CopyRow
import Derived.Laws.Rows
import Derived.Laws.Entries
import Derived.Tactics
set_option linter.all false
section
namespace Go.Proofs.XVai
open Go

inductive HV where
 | bool (b:Bool)
 | int (k:IntKind) (n:Int)
 | str (s:ByteArray)
 | agg (cs:List HV)
 | tup (vs:List HV)
 | nils
 | lst (rows:List (List HV))
 | sl (k n:Nat)
 | ptr (k n i o:Nat)
 | iptr (rows:List (List HV)) (i o:Nat)
 | nilptr
 | nilmap
 | nilfn
 | map (k:Nat)
 | fn (f:Nat) (caps:List HV)
 | gp (g:Nat)
 deriving Inhabited

inductive Ob where
 | dummy
 | cells (fr:Bool) (rows:List (List HV))
 | map (es:List (HV × HV))
 deriving Inhabited

abbrev St:=List Ob
abbrev Tm:=Nat->HV

inductive Sh where
 | int (k:IntKind) | bool | str
 | strct (fs:List (Nat × Nat × Nat))
 | arr (len elem:Nat)
 | slice (elem:Nat)
 | map (key elem:Nat)
 | ptr (elem:Nat)
 | func

structure TI where
 size:Nat
 agg:Bool
 zero:List HV
 sh:Sh
 eqok:Bool

structure Sys where
 tab:Nat->Option TI
 fn:Nat->Option Func
 byref:Nat->Bool
 keep:Nat->Bool
 prom:Nat->Bool
 muta:Nat->Nat->Bool
 glob:Nat->Option (List HV)

def HV.cells:HV->List HV
 | .agg cs=>cs
 | v=>[v]

def zT:HV->Bool
 | .bool _ | .int _ _ | .str _ | .lst _ | .nilptr | .nilmap | .nilfn | .gp _=>true
 | _=>false

def zo:HV->Bool
 | .agg _ | .tup _=>false
 | _=>true

def upd (T:Tm) (d:Nat) (v:HV):Tm:=fun t=>cond (Nat.beq t d) v (T t)
theorem zCA (T:Tm) (d:Nat) (v:HV):upd T d v = fun t=>if t = d then v else T t:=by
 funext t;unfold upd
 by_cases h:t = d
 ·subst h;simp
 ·have:Nat.beq t d = false:=by cases hb:Nat.beq t d with
   | false=>rfl
   | true=>exact absurd (Nat.eq_of_beq_eq_true hb) h
  rw [this,if_neg h];rfl
def put (T:Tm) (d:Option Nat) (v:HV):Tm:=match d with | some d=>upd T d v | none=>T

def xM:Value->HV
 | .bool b=>.bool b
 | .int k n=>.int k n
 | .string s=>.str s
 | .pointer none=>.nilptr
 | .slice none 0 0=>.nils
 | .map none=>.nilmap
 | .nilFunc=>.nilfn
 | _=>.tup [.nilptr]
def zF6:Value->HV
 | .agg cs=>.agg (cs.toList.map xM)
 | v=>xM v

def ev (T:Tm):Operand->HV
 | .tmp t=>T t
 | .const v=>zF6 v
 | .func f=>.fn f []
 | .global g=>.gp g

/-! ### rows -/
def wV (Y:Sys) (S:St):HV->Option (List HV × Nat)
 | .ptr k n i o=>match S[k]? with
  | some (.cells _ rows)=>if rows.length = n then (rows[i]?).map fun r=>(r,o) else none
  | _=>none
 | .iptr rows i o=>(rows[i]?).map fun r=>(r,o)
 | .gp g=>(Y.glob g).map fun r=>(r,0)
 | _=>none

def part (agg:Bool) (size:Nat) (row:List HV) (off:Nat):Option HV :=
 if agg then (if off + size<=row.length then some (.agg ((row.drop off).take size)) else none) else row[off]?

def setCells (row:List HV) (off:Nat):List HV->List HV
 | []=>row
 | c :: cs=>setCells (row.set off c) (off + 1) cs

def newOb (pl:Option Nat) (S:St) (o:Ob):Nat × St:=match pl with
 | none=>(S.length,S++[o])
 | some k=>(k,S.set k o)

def mapMS {α β:Type} (f:α->St->Option (β × St)):List α->St->Option (List β × St)
 | [],S=>some ([],S)
 | x :: xs,S=>match f x S with
  | some (y,S1)=>match mapMS f xs S1 with
   | some (ys,S2)=>some (y :: ys,S2)
   | none=>none
  | none=>none

def frzC (n0:Nat):Nat->HV->St->Option (HV × St)
 | d,.nils,S=>some (.lst [],S)
 | d,.sl k n,S=>if k < n0 then some (.sl k n,S) else match d with
  | 0=>none
  | d + 1=>match S[k]? with
   | some (.cells fr rows)=>if rows.length = n then
     match mapMS (mapMS (frzC n0 d)) rows S with
     | some (rows',S1)=>if rows'.all (fun r=>r.all zT) then some (.lst rows',if fr then S1 else S1.set k (.cells true rows)) else none
     | none=>none
    else none
   | _=>none
 | d,v,S=>some (v,S)
def frzV (n0:Nat):HV->St->Option (HV × St)
 | .agg cs,S=>match mapMS (frzC n0 6) cs S with
  | some (cs',S')=>some (.agg cs',S')
  | none=>none
 | v,S=>frzC n0 6 v S
def frzR (n0:Nat):HV->St->Option (HV × St)
 | .tup vs,S=>match mapMS (frzV n0) vs S with
  | some (vs',S')=>some (.tup vs',S')
  | none=>none
 | v,S=>frzV n0 v S

def promote (fl:Nat->Bool):Nat->List HV->St->List HV × St
 | _,[],S=>([],S)
 | j,.nils :: cs,S=>let (cs',S'):=promote fl (j + 1) cs (S++[.cells (!fl j) []]);(.sl S.length 0 :: cs',S')
 | j,c :: cs,S=>let (cs',S'):=promote fl (j + 1) cs S;(c :: cs',S')

/-! ### integers -/
def Wn (op:BinOp) (x y:HV):Option HV:=match x,y with
 | .int k a,.int k' b=>match op with
  | .shl=>if b < 0 then none else some (.int k (k.wrap (a * 2 ^ (min b.toNat k.bits))))
  | .shr=>if b < 0 then none else some (.int k (a.fdiv (2 ^ (min b.toNat k.bits))))
  | _=>if k = k' then match op with
   | .add=>some (.int k (k.wrap (a + b)))
   | .sub=>some (.int k (k.wrap (a - b)))
   | .mul=>some (.int k (k.wrap (a * b)))
   | .quo=>if b = 0 then none else some (.int k (k.wrap (a.tdiv b)))
   | .rem=>if b = 0 then none else some (.int k (a.tmod b))
   | .and=>some (.int k (k.wrap (BitVec.ofInt k.bits a &&& BitVec.ofInt k.bits b).toNat))
   | .or=>some (.int k (k.wrap (BitVec.ofInt k.bits a ||| BitVec.ofInt k.bits b).toNat))
   | .xor=>some (.int k (k.wrap (BitVec.ofInt k.bits a ^^^ BitVec.ofInt k.bits b).toNat))
   | .andNot=>some (.int k (k.wrap (BitVec.ofInt k.bits a &&& ~~~BitVec.ofInt k.bits b).toNat))
   | .eql=>some (.bool (a == b))
   | .neq=>some (.bool (a != b))
   | .lss=>some (.bool (decide (a < b)))
   | .leq=>some (.bool (decide (a<=b)))
   | .gtr=>some (.bool (decide (a > b)))
   | .geq=>some (.bool (decide (a ≥ b)))
   | _=>none
   else none
 | .str a,.str b=>match op with
  | .add=>if a.size + b.size<=9223372036854775807 then some (.str (a++b)) else none
  | .eql=>some (.bool (a.toList == b.toList))
  | .neq=>some (.bool !(a.toList == b.toList))
  | _=>none
 | _,_=>none

def eqC:HV->HV->Option Bool
 | .bool a,.bool b=>some (a == b)
 | .int k a,.int k' b=>if k = k' then some (a == b) else none
 | .nilptr,.nilptr=>some true
 | .nilptr,.ptr ..=>some false
 | .ptr ..,.nilptr=>some false
 | _,_=>none
def eqL:List HV->List HV->Option Bool
 | [],[]=>some true
 | a :: aS,b :: bs=>match eqC a b,eqL aS bs with
  | some x,some y=>some (x&&y)
  | _,_=>none
 | _,_=>none


/-! ### operations -/
def yj (Y:Sys) (t:Nat):Option Nat:=(Y.tab t).map (·.size)

def place (Y:Sys) (sh:Sh) (i:Nat):Option (Nat × Nat):=match sh with
 | .strct fs=>(fs[i]?).map fun f=>(f.2.1,f.2.2)
 | .arr _ e=>(yj Y e).map fun z=>(i * z,z)
 | _=>none
def UL (Y:Sys) (sh:Sh):List (Nat × HV)->List HV->Option (List HV)
 | [],row=>some row
 | (i,v) :: rest,row=>match place Y sh i with
  | some (off,z)=>if v.cells.length = z/\off + z<=row.length then UL Y sh rest (setCells row off v.cells) else none
  | none=>none
def XC (z:Nat):List (Nat × HV)->List (List HV)->Option (List (List HV))
 | [],rows=>some rows
 | (i,v) :: rest,rows=>if v.cells.length = z/\i < rows.length then XC z rest (rows.set i v.cells) else none

def buildable (Y:Sys) (sh:Sh):Bool:=match sh with
 | .strct _=>true
 | .arr _ e=>(Y.tab e).isSome
 | _=>false

def zrow (fl:Nat->Bool) (pr:Bool) (z:List HV) (S:St):List HV × St:=if pr then promote fl 0 z S else (z,S)
def zrows (fl:Nat->Bool) (pr:Bool) (z:List HV):Nat->St->List (List HV) × St
 | 0,S=>([],S)
 | n + 1,S=>let (r,S1):=zrow fl pr z S;let (rs,S2):=zrows fl pr z n S1;(r :: rs,S2)

def Z8 (n:Int):Option Nat:=if 0<=n then some n.toNat else none

def lim:Nat:=4294967296

def rowsOf (S:St):HV->Option (List (List HV))
 | .nils=>some []
 | .lst rows=>some rows
 | .sl k n=>match S[k]? with
  | some (.cells _ rows)=>if rows.length = n then some rows else none
  | _=>none
 | _=>none

def uW (fz mu:Bool) (pl:Option Nat) (S:St) (z:Nat) (x y:HV):Option (HV × St) :=
 match rowsOf S y with
 | none=>none
 | some rs=>if rs.all (fun r=>r.length == z&&r.all zo) then match x with
  | .nils=>if rs.isEmpty then some (.nils,S) else if rs.length<=lim then
    (if fz&&rs.all (fun r=>r.all zT) then some (.lst rs,S) else let (k,S'):=newOb pl S (.cells (!mu) rs);some (.sl k rs.length,S')) else none
  | .sl k n=>match S[k]? with
   | some (.cells fr rows)=>if rows.length = n/\n + rs.length<=lim/\rows.all (fun r=>r.length == z) then
     some (.sl k (n + rs.length),S.set k (.cells fr (rows++rs))) else none
   | _=>none
  | _=>none
  else none

def bound (d:Nat):Option HV->Option Nat
 | none=>some d
 | some (.int _ n)=>if 0<=n then some n.toNat else none
 | _=>none
def YQ (Y:Sys) (S:St) (t:Nat) (x:HV) (lo hi:Option HV):Option (HV × St) :=
 match Y.tab t with
 | none=>none
 | some ti=>match ti.sh with
  | .str=>match x with
   | .str s=>match bound 0 lo,bound s.size hi with
    | some l,some h=>if l<=h/\h<=s.size then some (.str (s.extract l h),S) else none
    | _,_=>none
   | _=>none
  | .slice e=>match yj Y e,frzC 0 6 x S with
   | some z,some (.lst rows,S1)=>match bound 0 lo,bound rows.length hi with
    | some l,some h=>if l<=h/\h<=rows.length/\rows.all (fun r=>r.length == z) then some (.lst ((rows.take h).drop l),S1) else none
    | _,_=>none
   | _,_=>none
  | _=>none

def uM (Y:Sys) (S:St) (t:Nat) (x i:HV):Option HV :=
 match i with
 | .int _ n=>match Y.tab t with
  | some ti=>match ti.sh,x with
   | .slice e,.lst rows=>match Z8 n with
    | some j=>if j < rows.length/\(rows[j]?).map (·.length) = yj Y e then some (.iptr rows j 0) else none
    | none=>none
   | .slice e,.sl k m=>match Z8 n,S[k]? with
    | some j,some (.cells _ rows)=>if rows.length = m/\j < m/\(rows[j]?).map (·.length) = yj Y e then some (.ptr k m j 0) else none
    | _,_=>none
   | .arr len e,.ptr k m r o=>match Z8 n,yj Y e with
    | some j,some z=>if j < len then some (.ptr k m r (o + j * z)) else none
    | _,_=>none
   | .arr len e,.iptr rows r o=>match Z8 n,yj Y e with
    | some j,some z=>if j < len then some (.iptr rows r (o + j * z)) else none
    | _,_=>none
   | _,_=>none
  | none=>none
 | _=>none

def WH (Y:Sys) (t:Nat) (x:HV) (f:Nat):Option HV :=
 match Y.tab t with
 | some ti=>match ti.sh with
  | .strct fs=>match fs[f]? with
   | some (_,off,z)=>if z = 0 then none else match x with
    | .ptr k n i o=>some (.ptr k n i (o + off))
    | .iptr rows i o=>some (.iptr rows i (o + off))
    | _=>none
   | none=>none
  | _=>none
 | none=>none

def uX (Y:Sys) (S:St) (t:Nat) (x:HV):Option HV :=
 match Y.tab t,wV Y S x with
 | some ti,some (row,o)=>part ti.agg ti.size row o
 | _,_=>none

def XO (Y:Sys) (S:St) (t:Nat) (x v:HV):Option St :=
 match x with
 | .ptr k n i o=>match yj Y t,S[k]? with
  | some z,some (.cells false rows)=>match rows[i]? with
   | some row=>if rows.length = n/\v.cells.length = z/\o + z<=row.length/\v.cells.all zo then
     some (S.set k (.cells false (rows.set i (setCells row o v.cells)))) else none
   | none=>none
  | _,_=>none
 | _=>none

def xc (key:HV):List (HV × HV)->Option (Option HV)
 | []=>some none
 | (k,v) :: es=>match eqL key.cells k.cells with
  | some true=>some (some v)
  | some false=>xc key es
  | none=>none
def wF (key v:HV):List (HV × HV)->Option (List (HV × HV))
 | []=>some [(key,v)]
 | (k,u) :: es=>match eqL key.cells k.cells with
  | some true=>some ((k,v) :: es)
  | some false=>(wF key v es).map ((k,u) :: ·)
  | none=>none

def isI:HV->Bool
 | .int .i64 _=>true
 | _=>false
def Yy (ti:TI) (x:HV):Bool:=ti.eqok&&x.cells.length == ti.size&&x.cells.all isI&&(match x with | .agg _=>ti.agg | v=>!ti.agg&&zo v)

def zeroOf (ti:TI):Option HV:=if ti.agg then some (.agg ti.zero) else match ti.zero with | [c]=>some c | _=>none

def zCI (Y:Sys) (src dst:Nat) (x:HV) (S:St):Option HV :=
 match Y.tab src,Y.tab dst with
 | some si,some ti=>match si.sh,ti.sh,x with
  | .int _,.int k,.int _ n=>some (.int k (k.wrap n))
  | _,_,_=>none
 | _,_=>none

def zAk:Operand->Bool
 | .const (.slice none 0 0)=>true
 | _=>false

def cop (Y:Sys) (fid:Nat) (call:Nat->List HV->St->Option (HV × St)) (pl:Option Nat) (o:Oper) (T:Tm) (S:St):Option (HV × St) :=
 let e:=ev T
 let pr:=Y.prom fid&&pl.isNone
 match o.op with
 | .move x | .assign x=>some (if zAk x&&(Y.muta fid 1001&&pl.isNone) then (.sl S.length 0,S++[.cells (!Y.muta fid 1000) []]) else (e x,S))
 | .pick c a b=>match e c with
  | .bool true=>some (e a,S)
  | .bool false=>some (e b,S)
  | _=>none
 | .alloc t=>match Y.tab t with
  | some ti=>let (k,S2):=newOb pl S (.cells false [ti.zero]);some (.ptr k 1 0 0,S2)
  | none=>none
 | .box t x=>let (k,S2):=newOb pl S (.cells false [(e x).cells]);some (.ptr k 1 0 0,S2)
 | .build t parts=>match Y.tab t with
  | some ti=>let (row,S1):=zrow (Y.muta fid) pr ti.zero S
   if buildable Y ti.sh then match UL Y ti.sh (parts.toList.map fun (i,x)=>(i,e x)) row with
    | some row'=>some (.agg row',S1)
    | none=>none
   else none
  | none=>none
 | .buildSlice t len parts=>match Y.tab t with
  | some ti=>match ti.sh with
   | .slice el=>match Y.tab el with
    | some te=>if len = 0 then (if parts.isEmpty then some (if Y.muta fid 1001&&pl.isNone then (.sl S.length 0,S++[.cells (!Y.muta fid 1000) []]) else (.nils,S)) else none) else if len * te.size<=16777216 then
      match XC te.size (parts.toList.map fun (i,x)=>(i,e x)) (List.replicate len te.zero) with
      | some rows=>if Y.muta fid 1002&&pl.isNone then (if rows.all (fun r=>r.all zo) then some (.sl S.length len,S++[.cells (!Y.muta fid 1000) rows]) else none) else match mapMS (mapMS (frzC 0 6)) rows S with
       | some (rows',S1)=>if rows'.all (fun r=>r.all zT) then some (.lst rows',S1) else none
       | none=>none
      | none=>none
     else none
    | none=>none
   | _=>none
  | none=>none
 | .load t x=>(uX Y S t (e x)).map fun v=>(v,S)
 | .store t x v=>(XO Y S t (e x) (e v)).map fun S'=>(.tup [],S')
 | .nilCheck x=>match e x with
  | .ptr k n i o=>some (.ptr k n i o,S)
  | .iptr rows i o=>some (.iptr rows i o,S)
  | .gp g=>some (.gp g,S)
  | _=>none
 | .binOp op t x y _=>match e x,e y with
  | .agg aS,.agg bs=>match Y.tab t with
   | some ti=>if ti.eqok&&ti.agg&&aS.length == ti.size&&bs.length == ti.size&&aS.all isI then match op,eqL aS bs with
     | .eql,some b=>some (.bool b,S)
     | .neq,some b=>some (.bool !b,S)
     | _,_=>none else none
   | none=>none
  | .bool a,.bool b=>match op with
   | .eql=>match Y.tab t with | some { sh:=.bool,.. }=>some (.bool (a == b),S) | _=>none
   | .neq=>match Y.tab t with | some { sh:=.bool,.. }=>some (.bool !(a == b),S) | _=>none
   | _=>none
  | .nilptr,.nilptr=>match Y.tab t with
   | some { sh:=.ptr _,.. }=>(match op with | .eql=>some (.bool true,S) | .neq=>some (.bool false,S) | _=>none)
   | _=>none
  | .ptr ..,.nilptr=>match Y.tab t with
   | some { sh:=.ptr _,.. }=>(match op with | .eql=>some (.bool false,S) | .neq=>some (.bool true,S) | _=>none)
   | _=>none
  | a,b=>(Wn op a b).map fun v=>(v,S)
 | .unOp op _ x=>match op,e x with
  | .not,.bool b=>some (.bool !b,S)
  | .neg,.int k n=>some (.int k (k.wrap (0 - n)),S)
  | _,_=>none
 | .convert src dst x=>(zCI Y src dst (e x) S).map fun v=>(v,S)
 | .makeFunc f first captured=>match f with
  | .func g=>if first.isEmpty then some (.fn g (captured.toList.map e),S) else none
  | _=>none
 | .makeMap t none=>let (k,S2):=newOb pl S (.map []);some (.map k,S2)
 | .makeSlice t l c=>match Y.tab t with
  | some ti=>match ti.sh,e l,e c with
   | .slice el,.int _ n,.int _ m=>match Y.tab el,Z8 n with
    | some te,some k=>if n = m/\k<=lim then
      let (rows,S1):=zrows (Y.muta fid) pr te.zero k S
      let (j,S2):=newOb pl S1 (.cells (!Y.muta fid 1000) rows);some (.sl j k,S2) else none
    | _,_=>none
   | _,_,_=>none
  | none=>none
 | .slice t x lo hi none=>YQ Y S t (e x) (lo.map e) (hi.map e)
 | .fieldAddr t x f=>(WH Y t (e x) f).map fun v=>(v,S)
 | .indexAddr t x i=>(uM Y S t (e x) (e i)).map fun v=>(v,S)
 | .index t x i=>match Y.tab t with
  | some ti=>match ti.sh,e x,e i with
   | .str,.str s,.int _ n=>match Z8 n with
    | some j=>match s[j]? with
     | some b=>some (.int .u8 b.toNat,S)
     | none=>none
    | none=>none
   | _,_,_=>none
  | none=>none
 | .lookup t x i commaOk=>match Y.tab t with
  | some ti=>match ti.sh,e x with
   | .map kt el,.map k=>match S[k]?,Y.tab kt,Y.tab el with
    | some (.map es),some tk,some te=>match xc (e i) es,zeroOf te with
     | some r,some z=>if Yy tk (e i)&&es.all (fun p=>Yy tk p.1) then
       some (if commaOk then .tup [r.getD z,.bool r.isSome] else r.getD z,S) else none
     | _,_=>none
    | _,_,_=>none
   | _,_=>none
  | none=>none
 | .mapUpdate t m k v=>match Y.tab t with
  | some ti=>match ti.sh,e m with
   | .map kt el,.map j=>match S[j]?,Y.tab kt with
    | some (.map es),some tk=>match wF (e k) (e v) es with
     | some es'=>if Yy tk (e k)&&es.all (fun p=>Yy tk p.1) then some (.tup [],S.set j (.map es')) else none
     | none=>none
    | _,_=>none
   | _,_=>none
  | none=>none
 | .extract x i=>match e x with
  | .tup vs=>(vs[i]?).map fun v=>(v,S)
  | _=>none
 | .call c=>match c.callee with
  | .builtin .len=>match c.args.toList.map e,c.argTypes.toList with
   | [x],[t]=>match Y.tab t with
    | some ti=>match ti.sh,x with
     | .str,.str s=>some (.int .i64 s.size,S)
     | .slice _,.nils=>some (.int .i64 0,S)
     | .slice _,.lst rows=>some (.int .i64 rows.length,S)
     | .slice _,.sl k n=>some (.int .i64 n,S)
     | _,_=>none
    | none=>none
   | _,_=>none
  | .builtin .append=>match c.args.toList.map e,c.argTypes.toList with
   | [x,y],[t,t2]=>match Y.tab t,Y.tab t2 with
    | some ti,some ti2=>match ti.sh,ti2.sh with
     | .slice el,.slice _=>match yj Y el with
      | some z=>uW (Y.muta fid (2000 + t)) (Y.muta fid 1000) pl S z x y
      | none=>none
     | _,_=>none
    | _,_=>none
   | _,_=>none
  | .builtin .max=>match c.args.toList.map e with
   | [.int k a,.int k' b]=>some (.int k (if b > a then b else a),S)
   | _=>none
  | .value f=>match e f with
   | .fn g caps=>if Y.byref g then call g (c.args.toList.map e++caps) S else
     match mapMS (frzV 0) (c.args.toList.map e) S with
     | some (args,S1)=>call g (args++caps) S1
     | none=>none
   | _=>none
  | _=>none
 | _=>none

def isE (o:Oper):Bool:=match o.op with
 | .store .. | .mapUpdate ..=>true
 | .call { callee:=.builtin .len,.. } | .call { callee:=.builtin .max,.. }=>false
 | .call _=>true
 | _=>false

def reads (o:Oper) (T:Tm):List Nat :=
 let of:HV->List Nat | .ptr k ..=>[k] | .sl k _=>[k] | .map k=>[k] | _=>[]
 match o.op with
 | .load _ x=>of (ev T x)
 | .indexAddr _ x _=>of (ev T x)
 | .lookup _ x _ _=>of (ev T x)
 | .slice _ x _ _ _=>of (ev T x)
 | _=>[]

def yA (ops:Array Oper) (o:Oper) (T:Tm):Bool:=match o.guard with
 | none=>true
 | some (j,want)=>match (ops[j]?).bind (·.dst) with
  | some d=>(match T d with | .bool b=>b == want | _=>false)
  | none=>false

def WI (Y:Sys) (fid:Nat) (call:Nat->List HV->St->Option (HV × St)) (ops:Array Oper):List Oper->Tm->St->Option (Tm × St)
 | [],T,S=>some (T,S)
 | o :: rest,T,S=>if yA ops o T then match cop Y fid call none o T S with
   | some (v,S')=>WI Y fid call ops rest (put T o.dst v) S'
   | none=>none
  else WI Y fid call ops rest (put T o.dst (.tup [])) S

/-! ### a region that draws its order -/
structure Log where
 idx:Nat
 reads:List Nat
 eff:Option (St × St)

def sameAt (A B:St) (k:Nat):Prop:=A[k]? = B[k]?

def anc (ops:Array Oper) (i j:Nat):Bool:=((Region.before ops).getD j 0).testBit i

def Z6 (ops:Array Oper) (x y:Log):Prop :=
 anc ops x.idx y.idx = true \/
  ((∀ A B,x.eff = some (A,B)->∀ k ∈ y.reads,sameAt A B k)/\(∀ A B,y.eff = some (A,B)->∀ k ∈ x.reads,sameAt A B k))

def Zt (o:Oper) (T:Tm) (slot:Nat) (S S':St):Prop :=
 isE o = false->S'.length = S.length/\(∀ k,k≠slot->S'[k]? = S[k]?) /\
  match o.op with
  | .buildSlice _ _ parts=>∀ p ∈ parts.toList,∀ c ∈ (ev T p.2).cells,(zT c = true\/c = .nils)
  | .slice _ x _ _ _=>∀ k n fr rows,ev T x = .sl k n->S[k]? = some (.cells fr rows)->∀ r ∈ rows,∀ c ∈ r,zT c = true
  | _=>True

open Classical in
noncomputable def uY (Y:Sys) (fid:Nat) (call:Nat->List HV->St->Option (HV × St)) (ops:Array Oper) (base:Nat):Nat->List Oper->List Log->Tm->St->Option (Tm × St)
 | _,[],_,T,S=>some (T,S)
 | i,o :: rest,L,T,S=>if yA ops o T then match cop Y fid call (some (base + i)) o T S with
   | some (v,S') =>
    let l:Log:=⟨i,if isE o then [] else reads o T,if isE o then some (S,S') else none⟩
    if Zt o T (base + i) S S'/\∀ x ∈ L,Z6 ops x l then uY Y fid call ops base (i + 1) rest (L++[l]) (put T o.dst v) S' else none
   | none=>none
  else uY Y fid call ops base (i + 1) rest L (put T o.dst (.tup [])) S

/-! ### code -/
inductive Ex where
 | norm
 | exit (id:Nat)
 | ret
 deriving DecidableEq

abbrev Res:=Option (Ex × Tm × St)

def iter:Nat->(Tm->St->Res)->Tm->St->Res
 | 0,_,_,_=>none
 | m + 1,f,T,S=>match f T S with
  | some (.norm,T',S')=>iter m f T' S'
  | r=>r

noncomputable def yz (Y:Sys) (fid:Nat) (call:Nat->List HV->St->Option (HV × St)) (m:Nat):Code->Tm->St->Res
 | .skip,T,S=>some (.norm,T,S)
 | .region _ ops false,T,S=>match WI Y fid call ops ops.toList T S with
  | some (T',S')=>some (.norm,T',S')
  | none=>none
 | .region _ ops true,T,S=>match uY Y fid call ops S.length 0 ops.toList [] T (S++List.replicate ops.size .dummy) with
  | some (T',S')=>some (.norm,T',S')
  | none=>none
 | .seq a b,T,S=>match yz Y fid call m a T S with
  | some (.norm,T',S')=>yz Y fid call m b T' S'
  | r=>r
 | .cond c a b,T,S=>match ev T c with
  | .bool true=>yz Y fid call m a T S
  | .bool false=>yz Y fid call m b T S
  | _=>none
 | .block id b,T,S=>match yz Y fid call m b T S with
  | some (.exit j,T',S')=>if j = id then some (.norm,T',S') else some (.exit j,T',S')
  | r=>r
 | .loop b,T,S=>iter m (yz Y fid call m b) T S
 | .exit id,T,S=>some (.exit id,T,S)
 | .ret,T,S=>some (.ret,T,S)
 | _,_,_=>none

/-! ### calls -/
def idC (n0:Nat):HV->Bool
 | .sl k _=>k < n0
 | .ptr k ..=>k < n0
 | .map k=>k < n0
 | .fn _ caps=>caps.all fun c=>match c with
  | .sl k _=>k < n0
  | .ptr k ..=>k < n0
  | .map k=>k < n0
  | .fn _ []=>true
  | .fn _ _=>false
  | .agg _=>false
  | .tup _=>false
  | _=>true
 | .agg _=>false
 | .tup _=>false
 | _=>true
def idV (n0:Nat):HV->Bool
 | .agg cs=>cs.all (idC n0)
 | v=>idC n0 v
def idR (n0:Nat):HV->Bool
 | .tup vs=>vs.all (idV n0)
 | v=>idV n0 v
def idO (n0:Nat):Ob->Bool
 | .dummy=>true
 | .cells _ rows=>rows.all fun r=>r.all (idC n0)
 | .map es=>es.all fun e=>idV n0 e.1&&idV n0 e.2

def VF (n0:Nat) (S S':St):Prop:=n0<=S'.length/\∀ k,k < n0->S'[k]? = S[k]?\/∃ o,S'[k]? = some o/\idO n0 o = true

def Vy (Y:Sys) (T:Tm) (S:St):ResultVar->Option HV
 | .tmp t=>some (T t)
 | .cell a t=>uX Y S t (T a)
def yh (Y:Sys) (T:Tm) (S:St):List ResultVar->Option (List HV)
 | []=>some []
 | r :: rs=>match Vy Y T S r,yh Y T S rs with
  | some v,some vs=>some (v :: vs)
  | _,_=>none
def xQ:List HV->HV
 | [v]=>v
 | vs=>.tup vs

def tm0 (args:List HV):Tm:=fun t=>args.getD t (.tup [])

open Classical in
noncomputable def YG (Y:Sys) (f:Nat) (fn:Func) (S:St):Res->Option (HV × St)
 | some (.exit _,_,_)=>none
 | some (_,T',S')=>match yh Y T' S' fn.results.toList with
  | some vs=>if Y.keep f then some (xQ vs,S') else match frzR S.length (xQ vs) S' with
   | some (v,S2)=>if idR S.length v = true/\VF S.length S S2 then some (v,S2.take S.length) else none
   | none=>none
  | none=>none
 | none=>none

noncomputable def xq (Y:Sys):Nat->Nat->List HV->St->Option (HV × St)
 | 0,_,_,_=>none
 | m + 1,f,args,S=>match Y.fn f with
  | some fn=>match fn.body with
   | some c=>if args.length<=fn.ntmps then YG Y f fn S (yz Y f (xq Y m) m c (tm0 args) S) else none
   | none=>none
  | none=>none

end Go.Proofs.XVai
end
section
namespace Go.Proofs.XVai
open Go

structure Env where
 hd:Nat->Nat->Option (Nat × Option Nat × Nat)
 mp:Nat->Option Nat
 M:Nat->Nat->Option Value

structure Env.le (E E':Env):Prop where
 hd:∀ k n h,E.hd k n = some h->E'.hd k n = some h
 mp:∀ k r,E.mp k = some r->E'.mp k = some r
 M:∀ b o v,E.M b o = some v->E'.M b o = some v

theorem Env.le.refl (E:Env):E.le E:=⟨fun _ _ _ h=>h,fun _ _ h=>h,fun _ _ _ h=>h⟩
theorem Env.le.trans {A B C:Env} (h:A.le B) (k:B.le C):A.le C :=
 ⟨fun _ _ _ x=>k.hd _ _ _ (h.hd _ _ _ x),fun _ _ x=>k.mp _ _ (h.mp _ _ x),fun _ _ _ x=>k.M _ _ _ (h.M _ _ _ x)⟩

inductive VRel (E:Env):HV->Value->Prop
 | bool (b:Bool):VRel E (.bool b) (.bool b)
 | int (k:IntKind) (n:Int):VRel E (.int k n) (.int k n)
 | str (s:ByteArray):VRel E (.str s) (.string s)
 | agg (cs:List HV) (vs:Array Value) (hl:cs.length = vs.size) (h:∀ (i:Nat) (c:HV) (v:Value),cs[i]? = some c->vs[i]? = some v->VRel E c v):VRel E (.agg cs) (.agg vs)
 | tup (cs:List HV) (vs:Array Value) (hl:cs.length = vs.size) (h:∀ (i:Nat) (c:HV) (v:Value),cs[i]? = some c->vs[i]? = some v->VRel E c v):VRel E (.tup cs) (.tuple vs)
 | nils (b:Option Addr):VRel E .nils (.slice b 0 0)
 | lst0 (b:Option Addr) (cap:Nat):VRel E (.lst []) (.slice b 0 cap)
 | lst (rows:List (List HV)) (b o cap sz:Nat) (hn:rows≠[]) (hc:rows.length<=cap) (hz:∀ r ∈ rows,r.length = sz)
   (hp:∀ r ∈ rows,∀ c ∈ r,zT c = true) (f:Nat->Nat->Value)
   (hM:∀ (i j:Nat) (r:List HV) (c:HV),rows[i]? = some r->r[j]? = some c->E.M b (o + i * sz + j) = some (f i j))
   (hV:∀ (i j:Nat) (r:List HV) (c:HV),rows[i]? = some r->r[j]? = some c->VRel E c (f i j)) :
   VRel E (.lst rows) (.slice (some ⟨b,o,none⟩) rows.length cap)
 | sl (k n sz:Nat) (base:Option Nat) (cap:Nat) (h:E.hd k n = some (sz,base,cap)) (hc:n<=cap) :
   VRel E (.sl k n) (.slice (base.map fun B=>⟨B,0,none⟩) n cap)
 | ptr (k n i o sz B cap:Nat) (h:E.hd k n = some (sz,some B,cap)):VRel E (.ptr k n i o) (.pointer (some ⟨B,i * sz + o,none⟩))
 | iptr (rows:List (List HV)) (i o b off sz:Nat) (hz:∀ r ∈ rows,r.length = sz)
   (hp:∀ r ∈ rows,∀ c ∈ r,zT c = true) (f:Nat->Nat->Value)
   (hM:∀ (i j:Nat) (r:List HV) (c:HV),rows[i]? = some r->r[j]? = some c->E.M b (off + i * sz + j) = some (f i j))
   (hV:∀ (i j:Nat) (r:List HV) (c:HV),rows[i]? = some r->r[j]? = some c->VRel E c (f i j)) :
   VRel E (.iptr rows i o) (.pointer (some ⟨b,off + i * sz + o,none⟩))
 | nilptr:VRel E .nilptr (.pointer none)
 | nilmap:VRel E .nilmap (.map none)
 | nilfn:VRel E .nilfn .nilFunc
 | map (k r:Nat) (h:E.mp k = some r):VRel E (.map k) (.map (some r))
 | fn (f:Nat) (caps:List HV) (vs:Array Value) (hl:caps.length = vs.size) (h:∀ (i:Nat) (c:HV) (v:Value),caps[i]? = some c->vs[i]? = some v->VRel E c v) :
   VRel E (.fn f caps) (.func (.func f) #[] vs)
 | gp (g:Nat):VRel E (.gp g) (.pointer (some ⟨g,0,none⟩))

theorem VRel.mono {E E':Env} (hE:E.le E') {c:HV} {v:Value} (h:VRel E c v):VRel E' c v:=by
 induction h with
 | bool b=>exact .bool b
 | int k n=>exact .int k n
 | str s=>exact .str s
 | agg cs vs hl _ ih=>exact .agg cs vs hl ih
 | tup cs vs hl _ ih=>exact .tup cs vs hl ih
 | nils b=>exact .nils b
 | lst0 b c=>exact .lst0 b c
 | lst rows b o cap sz hn hc hz hp f hM _ ih=>exact .lst rows b o cap sz hn hc hz hp f (fun i j r c h1 h2=>hE.M _ _ _ (hM i j r c h1 h2)) ih
 | sl k n sz base cap h hc=>exact .sl k n sz base cap (hE.hd _ _ _ h) hc
 | ptr k n i o sz B cap h=>exact .ptr k n i o sz B cap (hE.hd _ _ _ h)
 | iptr rows i o b off sz hz hp f hM _ ih=>exact .iptr rows i o b off sz hz hp f (fun i j r c h1 h2=>hE.M _ _ _ (hM i j r c h1 h2)) ih
 | nilptr=>exact .nilptr
 | nilmap=>exact .nilmap
 | nilfn=>exact .nilfn
 | map k r h=>exact .map k r (hE.mp _ _ h)
 | fn f caps vs hl _ ih=>exact .fn f caps vs hl ih
 | gp g=>exact .gp g

theorem VRel.pure {E E':Env} (hM':∀ b o v,E.M b o = some v->E'.M b o = some v) {c:HV} {v:Value} (h:VRel E c v) (hp:zT c = true):VRel E' c v:=by
 induction h with
 | bool b=>exact .bool b
 | int k n=>exact .int k n
 | str s=>exact .str s
 | lst0 b c=>exact .lst0 b c
 | lst rows b o cap sz hn hc hz hpp f hM _ ih =>
  exact .lst rows b o cap sz hn hc hz hpp f (fun i j r c h1 h2=>hM' _ _ _ (hM i j r c h1 h2))
   (fun i j r c h1 h2=>ih i j r c h1 h2 (hpp r (List.mem_of_getElem? h1) c (List.mem_of_getElem? h2)))
 | nilptr=>exact .nilptr
 | nilmap=>exact .nilmap
 | nilfn=>exact .nilfn
 | gp g=>exact .gp g
 | _=>simp [zT] at hp

theorem VRel.under {E E':Env} {n0:Nat} (hM':∀ b o v,E.M b o = some v->E'.M b o = some v) (hh:∀ k n h,k < n0->E.hd k n = some h->E'.hd k n = some h)
  (hm:∀ k r,k < n0->E.mp k = some r->E'.mp k = some r) {c:HV} {v:Value} (h:VRel E c v) (hc:idC n0 c = true):VRel E' c v:=by
 cases h with
 | bool b=>exact .bool b
 | int k n=>exact .int k n
 | str s=>exact .str s
 | nils b=>exact .nils b
 | lst0 b c=>exact .lst0 b c
 | lst rows b o cap sz hn hcap hz hp f hM hV=>exact VRel.pure hM' (.lst rows b o cap sz hn hcap hz hp f hM hV) rfl
 | sl k n sz base cap h hcap=>exact .sl k n sz base cap (hh _ _ _ (by simpa [idC] using hc) h) hcap
 | ptr k n i o sz B cap h=>exact .ptr k n i o sz B cap (hh _ _ _ (by simpa [idC] using hc) h)
 | iptr rows i o b off sz hz hp f hM hV =>
  exact .iptr rows i o b off sz hz hp f (fun i j r c h1 h2=>hM' _ _ _ (hM i j r c h1 h2))
   (fun i j r c h1 h2=>VRel.pure hM' (hV i j r c h1 h2) (hp r (List.mem_of_getElem? h1) c (List.mem_of_getElem? h2)))
 | nilptr=>exact .nilptr
 | nilmap=>exact .nilmap
 | nilfn=>exact .nilfn
 | map k r h=>exact .map k r (hm _ _ (by simpa [idC] using hc) h)
 | fn f caps vs hl h =>
  refine .fn f caps vs hl fun i c v h1 h2=>?_;have hq:=h i c v h1 h2;simp only [idC,List.all_eq_true] at hc;have hcc:=hc c (List.mem_of_getElem? h1);cases hq with
  | bool b=>exact .bool b
  | int k n=>exact .int k n
  | str s=>exact .str s
  | nils b=>exact .nils b
  | lst0 b c=>exact .lst0 b c
  | lst rows b o cap sz hn hcap hz hp f hM hV=>exact VRel.pure hM' (.lst rows b o cap sz hn hcap hz hp f hM hV) rfl
  | sl k n sz base cap h hcap=>exact .sl k n sz base cap (hh _ _ _ (by simpa using hcc) h) hcap
  | ptr k n i o sz B cap h=>exact .ptr k n i o sz B cap (hh _ _ _ (by simpa using hcc) h)
  | iptr rows i o b off sz hz hp f hM hV =>
   exact .iptr rows i o b off sz hz hp f (fun i j r c h1 h2=>hM' _ _ _ (hM i j r c h1 h2))
    (fun i j r c h1 h2=>VRel.pure hM' (hV i j r c h1 h2) (hp r (List.mem_of_getElem? h1) c (List.mem_of_getElem? h2)))
  | nilptr=>exact .nilptr
  | nilmap=>exact .nilmap
  | nilfn=>exact .nilfn
  | map k r h=>exact .map k r (hm _ _ (by simpa using hcc) h)
  | fn g caps' vs' hl' h' =>
   cases caps' with
   | nil=>exact .fn g [] vs' hl' (fun i c v h1 _=>by simp at h1)
   | cons a b=>simp at hcc
  | gp g=>exact .gp g
  | agg=>simp at hcc
  | tup=>simp at hcc
 | gp g=>exact .gp g
 | agg=>simp [idC] at hc
 | tup=>simp [idC] at hc

def owned (E:Env) (b:Nat):Prop:=(∃ k n sz cap,E.hd k n = some (sz,some b,cap))\/∃ k,E.mp k = some b

structure Rel (Y:Sys) (E:Env) (C:Nat->Option Ob) (w:World):Prop where
 hdC:∀ k n h,E.hd k n = some h->∃ fr rows,C k = some (.cells fr rows)/\n<=rows.length
 mpC:∀ k r,E.mp k = some r->∃ es,C k = some (.map es)
 cells:∀ k fr rows,C k = some (.cells fr rows)->∃ sz base cap,E.hd k rows.length = some (sz,base,cap)/\rows.length<=cap/\(∀ r ∈ rows,r.length = sz) /\
  (rows = []->cap = 0)/\(base = none->cap = 0)/\∀ B,base = some B->∃ cs ty,w.heap[B]? = some (.cells cs ty (0,0))/\cs.size = cap * sz /\
   (∀ (i j:Nat) (r:List HV) (c:HV),rows[i]? = some r->r[j]? = some c->∃ v,cs[i * sz + j]? = some v/\VRel E c v) /\
   (∀ o v,E.M B o = some v->fr = true/\o < rows.length * sz)
 maps:∀ k es,C k = some (.map es)->∃ r entries clock,E.mp k = some r/\w.heap[r]? = some (.map entries clock)/\es.length = entries.size /\
  ∀ (i:Nat) (e:HV × HV) (m:MapEntry),es[i]? = some e->entries[i]? = some m->VRel E e.1 m.key/\VRel E e.2 m.val
 inj:∀ k n sz B cap k' n' sz' cap',E.hd k n = some (sz,some B,cap)->E.hd k' n' = some (sz',some B,cap')->k = k'
 injm:∀ k k' r,E.mp k = some r->E.mp k' = some r->k = k'
 hdm:∀ k n sz B cap k',E.hd k n = some (sz,some B,cap)->E.mp k'≠some B
 bound:∀ k n sz B cap,E.hd k n = some (sz,some B,cap)->B < w.heap.size
 mem:∀ b o v,E.M b o = some v->w.cell? ⟨b,o,none⟩ = some v
 glob:∀ g row,Y.glob g = some row->(∀ c ∈ row,zT c = true)/\∃ f:Nat->Value,∀ (j:Nat) (c:HV),row[j]? = some c->E.M g j = some (f j)/\VRel E c (f j)
 nodummy:∀ k,C k≠some .dummy

structure Go1 (E:Env) (w:World) (E':Env) (w':World):Prop where
 le:E.le E'
 os:w'.os = w.os
 tape:w'.tape = w.tape
 output:w'.output = w.output
 size:w.heap.size<=w'.heap.size
 frame:∀ b,b < w.heap.size->¬ owned E b->w'.heap[b]? = w.heap[b]?
 fresh:∀ b,owned E' b->owned E b\/w.heap.size<=b

theorem Go1.refl (E:Env) (w:World):Go1 E w E w:=⟨.refl E,rfl,rfl,rfl,Nat.le_refl _,fun _ _ _=>rfl,fun _ h=>.inl h⟩
theorem Go1.trans {E E1 E2:Env} {w w1 w2:World} (h:Go1 E w E1 w1) (k:Go1 E1 w1 E2 w2):Go1 E w E2 w2 where
 le:=h.le.trans k.le
 os:=k.os.trans h.os
 tape:=k.tape.trans h.tape
 output:=k.output.trans h.output
 size:=Nat.le_trans h.size k.size
 frame b hb ho:=by
  have h1:¬ owned E1 b:=fun h1=>(h.fresh b h1).elim ho (by omega);rw [k.frame b (Nat.lt_of_lt_of_le hb h.size) h1,h.frame b hb ho]
 fresh b hb:=(k.fresh b hb).elim (fun h1=>h.fresh b h1) (fun h1=>.inr (Nat.le_trans h.size h1))

theorem Rel.drew {Y:Sys} {E:Env} {C:Nat->Option Ob} {w w':World} (h:Rel Y E C w) (hh:w'.heap = w.heap):Rel Y E C w' where
 hdC:=h.hdC
 mpC:=h.mpC
 cells:=by rw [hh];exact h.cells
 maps:=by rw [hh];exact h.maps
 inj:=h.inj
 injm:=h.injm
 hdm:=h.hdm
 bound:=by rw [hh];exact h.bound
 mem b o v hv:=by have:=h.mem b o v hv;unfold World.cell? at this ⊢;rw [hh];exact this
 glob:=h.glob
 nodummy:=h.nodummy

def xV (E:Env) (k n:Nat) (h:Nat × Option Nat × Nat):Env:={ E with hd:=fun k' n'=>if k' = k/\n' = n then some h else E.hd k' n' }
def vI (C:Nat->Option Ob) (k:Nat) (o:Ob):Nat->Option Ob:=fun k'=>if k' = k then some o else C k'

theorem zBs {C:Nat->Option Ob} (h:∀ k,C k≠some .dummy) (k:Nat) {o:Ob} (ho:o≠.dummy):∀ j,vI C k o j≠some .dummy:=by
 intro j;simp only [vI];split
 ·simpa using ho
 ·exact h j

theorem Rel.putCells {Y:Sys} {E:Env} {C:Nat->Option Ob} {w w':World} (hR:Rel Y E C w) (k:Nat) (fr':Bool) (rows':List (List HV)) (sz:Nat) (base':Option Nat) (cap':Nat)
  (hold:C k = none\/∃ fr rows,C k = some (.cells fr rows)/\rows.length<=rows'.length/\(rows.length = rows'.length->E.hd k rows.length = some (sz,base',cap')))
  (hos:w'.os = w.os) (htape:w'.tape = w.tape) (hout:w'.output = w.output)
  (hsize:w.heap.size<=w'.heap.size) (hframe:∀ b,b < w.heap.size->base'≠some b->w'.heap[b]? = w.heap[b]?)
  (hown:∀ B,base' = some B->(w.heap.size<=B\/∃ n sz cap,E.hd k n = some (sz,some B,cap))/\B < w'.heap.size)
  (hcap:rows'.length<=cap') (hz:∀ r ∈ rows',r.length = sz) (hnil:rows' = []->cap' = 0) (hnone:base' = none->cap' = 0)
  (hB:∀ B,base' = some B->∃ cs ty,w'.heap[B]? = some (.cells cs ty (0,0))/\cs.size = cap' * sz /\
   (∀ (i j:Nat) (r:List HV) (c:HV),rows'[i]? = some r->r[j]? = some c->∃ v,cs[i * sz + j]? = some v/\VRel (xV E k rows'.length (sz,base',cap')) c v) /\
   (∀ o v,E.M B o = some v->fr' = true/\o < rows'.length * sz/\cs[o]? = some v)) :
  Rel Y (xV E k rows'.length (sz,base',cap')) (vI C k (.cells fr' rows')) w'/\Go1 E w (xV E k rows'.length (sz,base',cap')) w':=by
 have hdnone:C k = none->∀ n h,E.hd k n≠some h:=fun h0 n h hh=>by
  obtain ⟨_,_,h1,_⟩:=hR.hdC _ _ _ hh;rw [h0] at h1;cases h1
 have hmpnone:(∃ r,E.mp k = some r)->False:=fun ⟨r,hr⟩=>by
  obtain ⟨es,h1⟩:=hR.mpC _ _ hr;rcases hold with h0 | ⟨fr,rows,h0,_⟩ <;> rw [h0] at h1 <;> cases h1
 have hle:E.le (xV E k rows'.length (sz,base',cap')):=by
  refine ⟨fun k1 n1 h1 hh=>?_,fun _ _ h=>h,fun _ _ _ h=>h⟩;simp only [xV]
  by_cases hk:k1 = k/\n1 = rows'.length
  ·rw [if_pos hk];obtain ⟨rfl,rfl⟩:=hk;rcases hold with h0 | ⟨fr,rows,h0,hlen,heq⟩
   ·exact absurd hh (hdnone h0 _ _)
   ·obtain ⟨fr1,rows1,h2,h3⟩:=hR.hdC _ _ _ hh;rw [h0] at h2;cases h2;have:rows.length = rows'.length:=by omega
    rw [<- heq this,this,hh]
  ·rw [if_neg hk];exact hh
 have hdcase:∀ k1 n1 h1,(xV E k rows'.length (sz,base',cap')).hd k1 n1 = some h1->E.hd k1 n1 = some h1\/(k1 = k/\n1 = rows'.length/\h1 = (sz,base',cap')):=by
  intro k1 n1 h1 hh;simp only [xV] at hh
  split at hh
  ·rename_i hk;cases hh;exact .inr ⟨hk.1,hk.2,rfl⟩
  ·exact .inl hh
 have ownB:∀ k1 n1 sz1 B cap1,(xV E k rows'.length (sz,base',cap')).hd k1 n1 = some (sz1,some B,cap1) ->
   (∃ n2 sz2 cap2,E.hd k1 n2 = some (sz2,some B,cap2))\/(k1 = k/\w.heap.size<=B):=by
  intro k1 n1 sz1 B cap1 hh;rcases hdcase _ _ _ hh with h | ⟨rfl,rfl,h⟩
  ·exact .inl ⟨_,_,_,h⟩
  ·simp only [Prod.mk.injEq] at h;obtain ⟨_,hb,_⟩:=h;rcases (hown B hb.symm).1 with h2 | h2
   ·exact .inr ⟨rfl,h2⟩
   ·exact .inl h2
 have framek:∀ B k1 n1 sz1 cap1,k1≠k->E.hd k1 n1 = some (sz1,some B,cap1)->w'.heap[B]? = w.heap[B]?:=by
  intro B k1 n1 sz1 cap1 hk hh;refine hframe B (hR.bound _ _ _ _ _ hh) fun hb=>?_;rcases (hown B hb).1 with h2 | ⟨n2,sz2,cap2,h2⟩
  ·have:=hR.bound _ _ _ _ _ hh;omega
  ·exact hk (hR.inj _ _ _ _ _ _ _ _ _ hh h2)
 refine ⟨⟨?_,?_,?_,?_,?_,?_,?_,?_,?_,?_,zBs hR.nodummy k (by simp)⟩,⟨hle,hos,htape,hout,hsize,?_,?_⟩⟩
 ·intro k1 n1 h1 hh;simp only [vI]
  by_cases hk:k1 = k
  ·rw [if_pos hk];refine ⟨fr',rows',rfl,?_⟩;rcases hdcase _ _ _ hh with h | ⟨_,h,_⟩
   ·subst hk;rcases hold with h0 | ⟨fr,rows,h0,hlen,_⟩
    ·exact absurd h (hdnone h0 _ _)
    ·obtain ⟨_,_,h2,h3⟩:=hR.hdC _ _ _ h;rw [h0] at h2;cases h2;omega
   ·omega
  ·rw [if_neg hk];rcases hdcase _ _ _ hh with h | ⟨h,_⟩
   ·exact hR.hdC _ _ _ h
   ·exact absurd h hk
 ·intro k1 r hr;have hk:k1≠k:=fun e=>hmpnone ⟨r,e ▸ hr⟩;simp only [vI,if_neg hk];exact hR.mpC _ _ hr
 ·intro k1 fr1 rows1 hC1;simp only [vI] at hC1
  by_cases hk:k1 = k
  ·rw [if_pos hk] at hC1;cases hC1;refine ⟨sz,base',cap',by simp [xV,hk],hcap,hz,hnil,hnone,fun B hb=>?_⟩;obtain ⟨cs,ty,h1,h2,h3,h4⟩:=hB B hb;exact ⟨cs,ty,h1,h2,h3,fun o v hv=>⟨(h4 o v hv).1,(h4 o v hv).2.1⟩⟩
  ·rw [if_neg hk] at hC1;obtain ⟨sz1,b1,c1,h1,h2,h3,h4,h5,h6⟩:=hR.cells _ _ _ hC1;refine ⟨sz1,b1,c1,hle.hd _ _ _ h1,h2,h3,h4,h5,fun B hb=>?_⟩;obtain ⟨cs,ty,g1,g2,g3,g4⟩:=h6 B hb;subst hb;refine ⟨cs,ty,by rw [framek B k1 _ _ _ hk h1];exact g1,g2,fun i j r c hi hj=>?_,g4⟩;obtain ⟨v,hv,hr⟩:=g3 i j r c hi hj;exact ⟨v,hv,hr.mono hle⟩
 ·intro k1 es hC1;simp only [vI] at hC1
  by_cases hk:k1 = k
  ·rw [if_pos hk] at hC1;cases hC1
  ·rw [if_neg hk] at hC1;obtain ⟨r,en,cl,h1,h2,h3,h4⟩:=hR.maps _ _ hC1;have hrlt:r < w.heap.size:=(Array.getElem?_eq_some_iff.1 h2).1;refine ⟨r,en,cl,h1,?_,h3,fun i e m he hm=>⟨((h4 i e m he hm).1).mono hle,((h4 i e m he hm).2).mono hle⟩⟩;rw [hframe r hrlt fun hb=>?_]
   ·exact h2
   ·rcases (hown r hb).1 with h5 | ⟨n2,sz2,cap2,h5⟩
    ·omega
    ·exact hR.hdm _ _ _ _ _ _ h5 h1
 ·intro k1 n1 sz1 B cap1 k2 n2 sz2 cap2 h1 h2;rcases ownB _ _ _ _ _ h1 with ⟨a1,a2,a3,ha⟩ | ⟨ha,hb⟩ <;> rcases ownB _ _ _ _ _ h2 with ⟨b1,b2,b3,hbb⟩ | ⟨hbb,hb2⟩
  ·exact hR.inj _ _ _ _ _ _ _ _ _ ha hbb
  ·have:=hR.bound _ _ _ _ _ ha;omega
  ·have:=hR.bound _ _ _ _ _ hbb;omega
  ·rw [ha,hbb]
 ·exact hR.injm
 ·intro k1 n1 sz1 B cap1 k2 h1 h2;rcases ownB _ _ _ _ _ h1 with ⟨a1,a2,a3,ha⟩ | ⟨ha,hb⟩
  ·exact hR.hdm _ _ _ _ _ _ ha h2
  ·replace h2:E.mp k2 = some B:=h2
   obtain ⟨es,h3⟩:=hR.mpC _ _ h2;obtain ⟨r,en,cl,h4,h5,_⟩:=hR.maps _ _ h3;rw [h2] at h4;cases h4;have:=(Array.getElem?_eq_some_iff.1 h5).1;omega
 ·intro k1 n1 sz1 B cap1 h1;rcases hdcase _ _ _ h1 with h | ⟨_,_,h⟩
  ·have:=hR.bound _ _ _ _ _ h;omega
  ·simp only [Prod.mk.injEq] at h;exact (hown B h.2.1.symm).2
 ·intro b o v hv;have hv':E.M b o = some v:=hv
  by_cases hb:base' = some b
  ·obtain ⟨cs,ty,h1,h2,h3,h4⟩:=hB b hb;have:=(h4 o v hv').2.2;unfold World.cell?;simp [h1,this]
  ·have hm:=hR.mem _ _ _ hv';have hlt:b < w.heap.size:=by
    unfold World.cell? at hm;rcases Nat.lt_or_ge b w.heap.size with h | h
    ·exact h
    ·simp [Array.getElem?_eq_none h] at hm
   unfold World.cell? at hm ⊢;rw [hframe b hlt hb];exact hm
 ·intro g row hg;obtain ⟨h1,f,h2⟩:=hR.glob g row hg;exact ⟨h1,f,fun j c hj=>⟨(h2 j c hj).1,((h2 j c hj).2).mono hle⟩⟩
 ·intro b hb ho;refine hframe b hb fun hbb=>?_;rcases (hown b hbb).1 with h2 | ⟨n2,sz2,cap2,h2⟩
  ·omega
  ·exact ho (.inl ⟨_,_,_,_,h2⟩)
 ·intro b hb;rcases hb with ⟨k1,n1,sz1,cap1,h1⟩ | ⟨k1,h1⟩
  ·rcases ownB _ _ _ _ _ h1 with ⟨a1,a2,a3,ha⟩ | ⟨_,h⟩
   ·exact .inl (.inl ⟨_,_,_,_,ha⟩)
   ·exact .inr h
  ·exact .inl (.inr ⟨k1,h1⟩)

end Go.Proofs.XVai
end
section
namespace Go.Proofs.XVai
open Go

def vW:Value->Bool
 | .bool _ | .int _ _ | .string _ | .pointer none | .slice none 0 0 | .map none | .nilFunc=>true
 | _=>false
def zF7:Value->Bool
 | .agg cs=>cs.toList.all vW
 | v=>vW v

theorem ZE {E:Env} {v:Value} (h:vW v = true):VRel E (xM v) v:=by
 unfold vW at h
 split at h <;> first | (cases h;done) | skip
 ·exact .bool _
 ·exact .int _ _
 ·exact .str _
 ·exact .nilptr
 ·exact .nils _
 ·exact .nilmap
 ·exact .nilfn

theorem zEv {E:Env} {v:Value} (h:zF7 v = true):VRel E (zF6 v) v:=by
 cases v with
 | agg cs =>
  refine .agg _ _ (by simp) fun i c u h1 h2=>?_;simp only [List.getElem?_map,Array.getElem?_toList,h2,Option.map_some,Option.some.injEq] at h1;subst h1;exact ZE (by
   have:=List.all_eq_true.1 h u (by simpa using Array.mem_of_getElem? h2);exact this)
 | _=>exact ZE (by simpa [zF7] using h)

structure TyOk (P:Program) (Y:Sys) (t:Nat) (ti:TI):Prop where
 info:∃ i z,P.info? t = some i/\i.size = ti.size/\i.bytes<=4096/\i.zero = some z/\z.cells.toList.all vW = true /\
  ti.zero = z.cells.toList.map xM/\z.cells.size = ti.size/\0 < ti.size
 agg:∃ d,P.underlying t = some d/\ti.agg = (match d with | .struct _ | .array _ _=>true | _=>false)
 sh:match ti.sh with
  | .int k=>P.underlying t = some (.int k)
  | .bool=>P.underlying t = some .bool
  | .str=>P.underlying t = some .string
  | .strct fs=>∃ fields,P.underlying t = some (.struct fields)/\fields.size = fs.length /\
    ∀ (i:Nat) (f:Field),fields[i]? = some f->∃ j,P.info? f.type = some j/\fs[i]? = some (f.type,f.offset,j.size)
  | .arr n e=>P.underlying t = some (.array n e)
  | .slice e=>P.underlying t = some (.slice e)
  | .map k e=>P.underlying t = some (.map k e)
  | .ptr e=>P.underlying t = some (.pointer e)
  | .func=>True
 eqok:ti.eqok = true->∀ (x y:HV) (E:Env) (u v:Value) (w:World) (b:Bool),x.cells.length = ti.size->y.cells.length = ti.size->x.cells.all isI = true->VRel E x u->VRel E y v->(ti.agg = true->∃ l m,x = .agg l/\y = .agg m)->(ti.agg = false->zo x = true/\zo y = true) ->
  eqL x.cells y.cells = some b->(Op.equal t u v).run P w = .ok b w
 zagg:∀ z,(P.info? t).bind (·.zero) = some z->((∃ cs,z = .agg cs) ↔ ti.agg = true)
 guard:ti.eqok = true->ti.agg = true->P.eqGuardType P.depth t = false
 key:ti.eqok = true->∀ (x:HV) (E:Env) (u:Value) (w:World) (b:Bool),x.cells.length = ti.size->VRel E x u->(ti.agg = true->∃ l,x = .agg l)->(ti.agg = false->zo x = true) ->
  (Instr.checkKey b 10000 t u).run P w = .ok () w

structure SysOk (Y:Sys) (P:Program):Prop where
 tab:∀ t ti,Y.tab t = some ti->TyOk P Y t ti
 mixed:P.follows .mixedOrders = true

section
variable {P:Program} {Y:Sys} {t:Nat} {ti:TI} (w:World)

theorem TyOk.run_size (h:TyOk P Y t ti):(sizeOf t).run P w = .ok ti.size w:=by
 obtain ⟨i,z,h1,h2,_⟩:=h.info;simp [sizeOf,typeInfo,h1,h2]
theorem TyOk.run_zero (h:TyOk P Y t ti):∃ z,(zeroValue t).run P w = .ok z w/\z.cells.toList.all vW = true/\ti.zero = z.cells.toList.map xM/\z.cells.size = ti.size:=by
 obtain ⟨i,z,h1,h2,_,h4,h5,h6,h7,_⟩:=h.info;exact ⟨z,by simp [zeroValue,typeInfo,h1,h4],h5,h6,h7⟩
theorem TyOk.run_agg (h:TyOk P Y t ti):(isAgg t).run P w = .ok ti.agg w:=by
 obtain ⟨d,h1,h2⟩:=h.agg;unfold isAgg;rw [Sem.run_bind,run_underlying h1 w,Result.andThen_ok,h2];cases d <;> rfl
theorem TyOk.zlen (h:TyOk P Y t ti):ti.zero.length = ti.size:=by
 obtain ⟨i,z,h1,h2,_,h4,h5,h6,h7,_⟩:=h.info;rw [h6];simp [h7]
end

theorem addr_add (b o n:Nat):(⟨b,o,none⟩:Addr).add n = ⟨b,o + n,none⟩:=by
 unfold Addr.add;split <;> simp_all

def yV (C:Nat->Option Ob) (S:St) (k:Nat):Prop:=∀ o,C k = some o->S[k]? = some o\/S[k]? = some .dummy

def zDg:HV->List Nat | .ptr k ..=>[k] | .sl k _=>[k] | .map k=>[k] | _=>[]

theorem QX {P:Program} {Y:Sys} {E:Env} {C:Nat->Option Ob} {S:St} {w:World} {x:HV} {v:Value} {row:List HV} {o:Nat}
  (hR:Rel Y E C w) (hx:VRel E x v) (hg:wV Y S x = some (row,o)) (hA:∀ k ∈ zDg x,yV C S k) :
  ∃ b r0,v = .pointer (some ⟨b,r0 + o,none⟩)/\∀ (j:Nat) (c:HV),row[j]? = some c->∃ u,w.cell? ⟨b,r0 + j,none⟩ = some u/\VRel E c u:=by
 cases hx with
 | ptr k n i o' sz B cap h =>
  simp only [wV] at hg;obtain ⟨fr,rows,hC,_⟩:=hR.hdC _ _ _ h;rcases hA k (by simp [zDg]) _ hC with hS | hS
  ·rw [hS] at hg;simp only at hg
   by_cases hn:rows.length = n
   ·rw [if_pos hn] at hg;obtain ⟨r,hr,he⟩:=Option.map_eq_some_iff.1 hg;simp only [Prod.mk.injEq] at he;obtain ⟨rfl,rfl⟩:=he;subst hn;obtain ⟨sz',base',cap',h1,_,hz,_,_,hB⟩:=hR.cells _ _ _ hC;rw [h] at h1;simp only [Option.some.injEq,Prod.mk.injEq] at h1;obtain ⟨rfl,rfl,rfl⟩:=h1;obtain ⟨cs,ty,hh,_,hv,_⟩:=hB B rfl;refine ⟨B,i * sz,rfl,fun j c hj=>?_⟩;obtain ⟨u,hu,hr'⟩:=hv i j r c hr hj;exact ⟨u,by rw [cell_of_row w B (i * sz + j) cs ty _ hh];exact hu,hr'⟩
   ·rw [if_neg hn] at hg;cases hg
  ·rw [hS] at hg;cases hg
 | iptr rows i o' b off sz hz hp f hM hV =>
  simp only [wV] at hg;obtain ⟨r,hr,he⟩:=Option.map_eq_some_iff.1 hg;simp only [Prod.mk.injEq] at he;obtain ⟨rfl,rfl⟩:=he;exact ⟨b,off + i * sz,rfl,fun j c hj=>⟨f i j,hR.mem _ _ _ (hM i j r c hr hj),hV i j r c hr hj⟩⟩
 | gp g =>
  simp only [wV] at hg;obtain ⟨r,hr,he⟩:=Option.map_eq_some_iff.1 hg;simp only [Prod.mk.injEq] at he;obtain ⟨rfl,rfl⟩:=he;obtain ⟨_,f,hf⟩:=hR.glob _ _ hr;exact ⟨g,0,rfl,fun j c hj=>⟨f j,by simpa using hR.mem _ _ _ (hf j c hj).1,(hf j c hj).2⟩⟩
 | _=>simp [wV] at hg

theorem XQ {α:Type} (n:Nat) (p:Nat->α->Prop) (h:∀ j,j < n->∃ u,p j u):∃ l:List α,l.length = n/\∀ (j:Nat) (u:α),l[j]? = some u->p j u:=by
 induction n with
 | zero=>exact ⟨[],rfl,by simp⟩
 | succ n ih =>
  obtain ⟨l,hl,hp⟩:=ih fun j hj=>h j (by omega);obtain ⟨u,hu⟩:=h n (by omega);refine ⟨l++[u],by simp [hl],fun j v hv=>?_⟩
  by_cases hj:j < l.length
  ·rw [List.getElem?_append_left hj] at hv;exact hp j v hv
  ·rw [List.getElem?_append_right (by omega)] at hv;have:j - l.length = 0:=by
    rcases Nat.eq_zero_or_pos (j - l.length) with h0 | h0
    ·exact h0
    ·rw [List.getElem?_eq_none (by simp;omega)] at hv;cases hv
   rw [this] at hv;simp at hv;subst hv;have:j = n:=by omega
   rw [this];exact hu

theorem zCy {P:Program} {Y:Sys} (hY:SysOk Y P) {E:Env} {C:Nat->Option Ob} {S:St} {w:World} {x c:HV} {v:Value} {t:Nat}
  (hR:Rel Y E C w) (hx:VRel E x v) (hA:∀ k ∈ zDg x,yV C S k) (hl:uX Y S t x = some c) :
  ∃ u,(Instr.loadAt t v).run P w = .ok u w/\VRel E c u:=by
 unfold uX at hl
 split at hl
 ·rename_i ti row o ht hg;obtain ⟨b,r0,rfl,hc⟩:=QX (P:=P) hR hx hg hA;have hT:=hY.tab _ _ ht;simp only [Instr.loadAt,Instr.sureAddr,Sem.run_bind,Sem.run_pure,Result.andThen_ok,loadVar,hT.run_agg,hT.run_size];unfold part at hl
  by_cases ha:ti.agg = true
  ·rw [if_pos ha] at hl
   by_cases hz:o + ti.size<=row.length
   ·rw [if_pos hz] at hl;cases hl;obtain ⟨l,hll,hlp⟩:=XQ ti.size (fun j u=>w.cell? ⟨b,r0 + o + j,none⟩ = some u/\∀ c,row[o + j]? = some c->VRel E c u) (fun j hj=>by
     obtain ⟨u,hu,hr⟩:=hc (o + j) row[o + j] (List.getElem?_eq_getElem (by omega));refine ⟨u,by rw [Nat.add_assoc];exact hu,fun c' hc'=>?_⟩;rw [List.getElem?_eq_getElem (by omega)] at hc';cases hc';exact hr)
    have hrun:=run_loadCells_list (P:=P) w ⟨b,r0 + o,none⟩ l (fun j u hu=>by rw [addr_add];exact (hlp j u hu).1);rw [hll] at hrun;refine ⟨.agg l.toArray,?_,.agg _ _ (by simp [hll,List.length_take,List.length_drop];omega) fun i c' u h1 h2=>?_⟩
    ·simp [ha,hrun,hT.run_size]
    ·have h2':l[i]? = some u:=by simpa using h2
     have hi:i < ti.size:=by
      have:=(List.getElem?_eq_some_iff.1 h2').1;omega
     rw [List.getElem?_take_of_lt hi,List.getElem?_drop] at h1;exact (hlp i u h2').2 c' h1
   ·rw [if_neg hz] at hl;cases hl
  ·rw [if_neg ha] at hl;obtain ⟨u,hu,hr⟩:=hc o c hl;refine ⟨u,?_,hr⟩;simp [ha,hu]
 ·cases hl

end Go.Proofs.XVai
end
section
namespace Go.Proofs.XVai
open Go

def CellsRel (E:Env) (row:List HV) (cells:Array Value):Prop:=row.length = cells.size/\∀ (j:Nat) (c:HV) (v:Value),row[j]? = some c->cells[j]? = some v->VRel E c v

theorem CellsRel.mono {E E':Env} (h:E.le E') {row:List HV} {cells:Array Value} (k:CellsRel E row cells):CellsRel E' row cells :=
 ⟨k.1,fun j c v h1 h2=>(k.2 j c v h1 h2).mono h⟩

theorem QL {E:Env} {x:HV} {v:Value} (h:VRel E x v):CellsRel E x.cells v.cells:=by
 cases h with
 | agg cs vs hl h=>exact ⟨hl,h⟩
 | bool b=>exact ⟨rfl,fun j c v h1 h2=>by cases j <;> simp_all [HV.cells,Value.cells];subst h1;subst h2;exact .bool b⟩
 | int k n=>exact ⟨rfl,fun j c v h1 h2=>by cases j <;> simp_all [HV.cells,Value.cells];subst h1;subst h2;exact .int k n⟩
 | str s=>exact ⟨rfl,fun j c v h1 h2=>by cases j <;> simp_all [HV.cells,Value.cells];subst h1;subst h2;exact .str s⟩
 | tup cs vs hl h=>exact ⟨rfl,fun j c v h1 h2=>by cases j <;> simp_all [HV.cells,Value.cells];subst h1;subst h2;exact .tup cs vs hl h⟩
 | nils b=>exact ⟨rfl,fun j c v h1 h2=>by cases j <;> simp_all [HV.cells,Value.cells];subst h1;subst h2;exact .nils b⟩
 | lst0 b cap=>exact ⟨rfl,fun j c v h1 h2=>by cases j <;> simp_all [HV.cells,Value.cells];subst h1;subst h2;exact .lst0 b cap⟩
 | lst rows b o cap sz hn hc hz hp f hM hV=>exact ⟨rfl,fun j c v h1 h2=>by cases j <;> simp_all [HV.cells,Value.cells];subst h1;subst h2;exact .lst rows b o cap sz hn hc hz hp f hM hV⟩
 | sl k n sz base cap h hc=>exact ⟨rfl,fun j c v h1 h2=>by cases j <;> simp_all [HV.cells,Value.cells];subst h1;subst h2;exact .sl k n sz base cap h hc⟩
 | ptr k n i o sz B cap h=>exact ⟨rfl,fun j c v h1 h2=>by cases j <;> simp_all [HV.cells,Value.cells];subst h1;subst h2;exact .ptr k n i o sz B cap h⟩
 | iptr rows i o b off sz hz hp f hM hV=>exact ⟨rfl,fun j c v h1 h2=>by cases j <;> simp_all [HV.cells,Value.cells];subst h1;subst h2;exact .iptr rows i o b off sz hz hp f hM hV⟩
 | nilptr=>exact ⟨rfl,fun j c v h1 h2=>by cases j <;> simp_all [HV.cells,Value.cells];subst h1;subst h2;exact .nilptr⟩
 | nilmap=>exact ⟨rfl,fun j c v h1 h2=>by cases j <;> simp_all [HV.cells,Value.cells];subst h1;subst h2;exact .nilmap⟩
 | nilfn=>exact ⟨rfl,fun j c v h1 h2=>by cases j <;> simp_all [HV.cells,Value.cells];subst h1;subst h2;exact .nilfn⟩
 | map k r h=>exact ⟨rfl,fun j c v h1 h2=>by cases j <;> simp_all [HV.cells,Value.cells];subst h1;subst h2;exact .map k r h⟩
 | fn f caps vs hl h=>exact ⟨rfl,fun j c v h1 h2=>by cases j <;> simp_all [HV.cells,Value.cells];subst h1;subst h2;exact .fn f caps vs hl h⟩
 | gp g=>exact ⟨rfl,fun j c v h1 h2=>by cases j <;> simp_all [HV.cells,Value.cells];subst h1;subst h2;exact .gp g⟩

theorem Xi {E:Env} {z:Value} (h:z.cells.toList.all vW = true):CellsRel E (z.cells.toList.map xM) z.cells :=
 ⟨by simp,fun j c v h1 h2=>by
  simp only [List.getElem?_map,Array.getElem?_toList,h2,Option.map_some,Option.some.injEq] at h1;subst h1;exact ZE (List.all_eq_true.1 h v (by simpa using Array.mem_of_getElem? h2))⟩

theorem Uv (cs row:List HV) (off:Nat):(setCells row off cs).length = row.length:=by
 induction cs generalizing row off with
 | nil=>rfl
 | cons c cs ih=>simp [setCells,ih]

theorem zBu {E:Env} {xs:List HV} {vs:List Value}:∀ {row:List HV} {cells:Array Value} (off:Nat),CellsRel E row cells->xs.length = vs.length ->
  (∀ (j:Nat) (c:HV) (v:Value),xs[j]? = some c->vs[j]? = some v->VRel E c v) ->
  CellsRel E (setCells row off xs) ((vs.zipIdx).foldl (fun cs (c,j)=>cs.setIfInBounds (off + j) c) cells):=by
 have key:∀ (xs:List HV) (vs:List Value) (row:List HV) (cells:Array Value) (off n:Nat),CellsRel E row cells->xs.length = vs.length ->
   (∀ (j:Nat) (c:HV) (v:Value),xs[j]? = some c->vs[j]? = some v->VRel E c v) ->
   CellsRel E (setCells row (off + n) xs) ((vs.zipIdx n).foldl (fun cs (c,j)=>cs.setIfInBounds (off + j) c) cells):=by
  intro xs
  induction xs with
  | nil=>intro vs row cells off n h hl _;cases vs <;> simp_all [setCells]
  | cons x xs ih =>
   intro vs row cells off n h hl hr;cases vs with
   | nil=>simp at hl
   | cons v vs =>
    simp only [setCells,List.zipIdx_cons,List.foldl_cons];have:=ih vs (row.set (off + n) x) (cells.setIfInBounds (off + n) v) off (n + 1) ⟨by simp [h.1],fun j c u h1 h2=>?_⟩ (by simpa using hl)
     (fun j c u h1 h2=>hr (j + 1) c u (by simpa using h1) (by simpa using h2))
    ·rw [show off + n + 1 = off + (n + 1) by omega];exact this
    ·by_cases hj:off + n = j
     ·subst hj;rw [List.getElem?_set] at h1;simp only [Array.getElem?_setIfInBounds,if_true] at h1 h2
      split at h1
      ·split at h2
       ·cases h1;cases h2;exact hr 0 _ _ rfl rfl
       ·cases h2
      ·cases h1
     ·rw [List.getElem?_set_ne hj] at h1;rw [Array.getElem?_setIfInBounds_ne hj] at h2;exact h.2 j c u h1 h2
 intro row cells off h hl hr;have:=key xs vs row cells off 0 h hl hr;simpa using this

theorem Wl {Y:Sys} {E:Env} {sh:Sh} {pl:Nat->Option (Nat × Nat)} (hpl:∀ i p,place Y sh i = some p->pl i = some p) :
  ∀ {parts:List (Nat × HV)} {vs:List (Nat × Value)} {row row':List HV} {cells:Array Value},parts.length = vs.length ->
  (∀ (j:Nat) (p:Nat × HV) (q:Nat × Value),parts[j]? = some p->vs[j]? = some q->p.1 = q.1/\VRel E p.2 q.2)->CellsRel E row cells ->
  UL Y sh parts row = some row'->∃ cells',Instr.fill pl cells vs = some cells'/\CellsRel E row' cells':=by
 intro parts
 induction parts with
 | nil=>intro vs row row' cells hl _ h hf;cases vs <;> simp_all [UL,Instr.fill]
 | cons p parts ih =>
  intro vs row row' cells hl hr h hf;cases vs with
  | nil=>simp at hl
  | cons q vs =>
   obtain ⟨i,x⟩:=p;obtain ⟨i',v⟩:=q;obtain ⟨rfl,hx⟩:=hr 0 _ _ rfl rfl;simp only [UL] at hf
   split at hf
   ·rename_i off z hp
    split at hf
    ·rename_i hc;have hcx:=QL hx;have h2:=zBu (E:=E) (xs:=x.cells) (vs:=v.cells.toList) off h (by simp [hcx.1]) (fun j c u h1 h2=>hcx.2 j c u h1 (by simpa using h2));obtain ⟨cells',h3,h4⟩:=ih (by simpa using hl) (fun j p q h1 h2=>hr (j + 1) p q (by simpa using h1) (by simpa using h2)) h2 hf;refine ⟨cells',?_,h4⟩;simp only [Instr.fill,hpl _ _ hp];rw [if_neg]
     ·have:(v.cells.zipIdx.foldl (fun cs (c,j)=>cs.setIfInBounds (off + j) c) cells) = (v.cells.toList.zipIdx.foldl (fun cs (c,j)=>cs.setIfInBounds (off + j) c) cells):=by
       rw [<- Array.foldl_toList];simp
      rw [this];exact h3
     ·have h1:x.cells.length = v.cells.size:=hcx.1;have h0:=h.1;have h5:x.cells.length = z:=hc.1;have h6:off + z<=row.length:=hc.2;simp only [Bool.or_eq_true,bne_iff_ne,ne_eq,decide_eq_true_eq,not_or,Classical.not_not];omega
    ·cases hf
   ·cases hf

theorem Env.le_setHd {E:Env} {Y:Sys} {C:Nat->Option Ob} {w:World} (hR:Rel Y E C w) {k n:Nat} {h:Nat × Option Nat × Nat} (hk:C k = none):E.le (xV E k n h) :=
 ⟨fun k1 n1 h1 hh=>by
  simp only [xV]
  by_cases e:k1 = k/\n1 = n
  ·obtain ⟨_,_,h2,_⟩:=hR.hdC _ _ _ hh;rw [e.1,hk] at h2;cases h2
  ·rw [if_neg e];exact hh,fun _ _ h=>h,fun _ _ _ h=>h⟩

theorem YX {Y:Sys} {E:Env} {C:Nat->Option Ob} {w:World} (hR:Rel Y E C w) {k:Nat} (hk:C k = none) (fr:Bool) (rows:List (List HV)) (sz:Nat) (cs:Array Value) (ty:TypeId)
  (hz:∀ r ∈ rows,r.length = sz) (hsz:cs.size = rows.length * sz)
  (hv:∀ (i j:Nat) (r:List HV) (c:HV),rows[i]? = some r->r[j]? = some c->∃ v,cs[i * sz + j]? = some v/\VRel E c v) :
  Rel Y (xV E k rows.length (sz,some w.heap.size,rows.length)) (vI C k (.cells fr rows)) { w with heap:=w.heap.push (.cells cs ty) } /\
   Go1 E w (xV E k rows.length (sz,some w.heap.size,rows.length)) { w with heap:=w.heap.push (.cells cs ty) }:=by
 refine hR.putCells k fr rows sz (some w.heap.size) rows.length (.inl hk) rfl rfl rfl (by simp) (fun b hb _=>?_) (fun B hB=>?_) (Nat.le_refl _) hz (fun h=>by simp [h]) (fun h=>by cases h) fun B hB=>?_
 ·simp [Array.getElem?_push];omega
 ·cases hB;exact ⟨.inl (Nat.le_refl _),by simp⟩
 ·cases hB;refine ⟨cs,ty,by simp,hsz,fun i j r c h1 h2=>?_,fun o v h1=>?_⟩
  ·obtain ⟨v,h3,h4⟩:=hv i j r c h1 h2;exact ⟨v,h3,h4.mono (Env.le_setHd hR hk)⟩
  ·have hm:=hR.mem _ _ _ h1;unfold World.cell? at hm;simp at hm

theorem zA6 {Y:Sys} {E:Env} {C:Nat->Option Ob} {w:World} (hR:Rel Y E C w) {k:Nat} (hk:C k = none) (fr:Bool) :
  Rel Y (xV E k 0 (0,none,0)) (vI C k (.cells fr [])) w/\Go1 E w (xV E k 0 (0,none,0)) w :=
 hR.putCells k fr [] 0 none 0 (.inl hk) rfl rfl rfl (Nat.le_refl _) (fun _ _ _=>rfl) (fun B hB=>by cases hB) (Nat.le_refl _) (by simp) (fun _=>rfl) (fun _=>rfl) fun B hB=>by cases hB

open Classical in
noncomputable def updC (C:Nat->Option Ob) (S S':St):Nat->Option Ob:=fun k=>if S'[k]? = S[k]? then C k else S'[k]?

theorem yI (C:Nat->Option Ob) (S:St):updC C S S = C:=by funext k;simp [updC]

theorem zFC {C:Nat->Option Ob} {S:St} (h:∀ k,S.length<=k->C k = none) (o:Ob):updC C S (S++[o]) = vI C S.length o:=by
 funext k;simp only [updC,vI]
 by_cases hk:k = S.length
 ·subst hk;simp
 ·rw [if_neg hk];rcases Nat.lt_or_ge k S.length with h1 | h1
  ·rw [List.getElem?_append_left h1,if_pos rfl]
  ·rw [List.getElem?_eq_none (l:=S++[o]) (by simp;omega),List.getElem?_eq_none (l:=S) h1,if_pos rfl]

theorem uK {C:Nat->Option Ob} {S:St} {k:Nat} {old o:Ob} (h:S[k]? = some old) (hc:C k = some old\/o≠old):updC C S (S.set k o) = vI C k o:=by
 have hlt:=(List.getElem?_eq_some_iff.1 h).1;funext j;simp only [updC,vI]
 by_cases hj:j = k
 ·subst hj;rw [if_pos rfl,List.getElem?_set_self hlt,h]
  by_cases he:o = old
  ·subst he;rw [if_pos rfl];rcases hc with hc | hc
   ·exact hc
   ·exact absurd rfl hc
  ·rw [if_neg (by simpa using he)]
 ·rw [if_neg hj,List.getElem?_set_ne (Ne.symm hj),if_pos rfl]

def X4 (C:Nat->Option Ob) (S:St) (pl:Option Nat):Prop:=match pl with
 | none=>∀ k,S.length<=k->C k = none
 | some s=>C s = none/\S[s]? = some .dummy

theorem VD {C:Nat->Option Ob} {S:St} {pl:Option Nat} (h:X4 C S pl) (o:Ob):C (newOb pl S o).1 = none:=by
 cases pl with
 | none=>exact h _ (Nat.le_refl _)
 | some s=>exact h.1
theorem YN {C:Nat->Option Ob} {S:St} {pl:Option Nat} (h:X4 C S pl) {o:Ob} (ho:o≠.dummy):updC C S (newOb pl S o).2 = vI C (newOb pl S o).1 o:=by
 cases pl with
 | none=>exact zFC h o
 | some s=>exact uK h.2 (.inr ho)

end Go.Proofs.XVai
end
section
namespace Go.Proofs.XVai
open Go

def FlagLe (S S':St):Prop:=S'.length = S.length/\∀ (k:Nat),S'[k]? = S[k]?\/∃ rows,S[k]? = some (.cells false rows)/\S'[k]? = some (.cells true rows)

theorem FlagLe.refl (S:St):FlagLe S S:=⟨rfl,fun _=>.inl rfl⟩
theorem FlagLe.trans {A B C:St} (h:FlagLe A B) (k:FlagLe B C):FlagLe A C:=by
 refine ⟨k.1.trans h.1,fun j=>?_⟩;rcases h.2 j with h1 | ⟨r,h1,h2⟩ <;> rcases k.2 j with k1 | ⟨r',k1,k2⟩
 ·exact .inl (k1.trans h1)
 ·exact .inr ⟨r',by rw [<- h1];exact k1,k2⟩
 ·exact .inr ⟨r,h1,by rw [k1];exact h2⟩
 ·rw [h2] at k1;cases k1
theorem FlagLe.upd {A B D:St} (h:FlagLe A B) (k:FlagLe B D) (C:Nat->Option Ob):updC (updC C A B) B D = updC C A D:=by
 funext j;simp only [Go.Proofs.XVai.updC]
 by_cases h1:D[j]? = B[j]?
 ·rw [if_pos h1,h1]
 ·rw [if_neg h1];rcases k.2 j with k1 | ⟨r',k1,k2⟩
  ·exact absurd k1 h1
  ·rw [if_neg];intro h3;rcases h.2 j with h2 | ⟨r,h2,h4⟩
   ·exact h1 (h3.trans h2.symm)
   ·rw [h4] at k1;cases k1
theorem FlagLe.agree {A B:St} {C:Nat->Option Ob} (h:FlagLe A B) (hA:∀ k,yV C A k):∀ k,yV (updC C A B) B k:=by
 intro k o ho;simp only [Go.Proofs.XVai.updC] at ho
 split at ho
 ·rename_i he;rcases hA k o ho with h1 | h1
  ·exact .inl (he.trans h1)
  ·exact .inr (he.trans h1)
 ·exact .inl ho

def FStep {α β:Type} (Y:Sys) (w:World) (R:Env->α->β->Prop) (f:α->St->Option (α × St)):Prop :=
 ∀ (x x':α) (S S':St) (E:Env) (C:Nat->Option Ob) (v:β),f x S = some (x',S')->Rel Y E C w->(∀ k,yV C S k)->R E x v ->
  ∃ E',R E' x' v/\Rel Y E' (updC C S S') w/\Go1 E w E' w/\FlagLe S S'/\∀ (k:Nat),S'[k]?≠S[k]?->C k = S[k]?

def Zl {α β:Type} (R:Env->α->β->Prop) (E:Env) (xs:List α) (vs:List β):Prop:=xs.length = vs.length/\∀ (i:Nat) (x:α) (v:β),xs[i]? = some x->vs[i]? = some v->R E x v

theorem FStep.list {α β:Type} {Y:Sys} {w:World} {R:Env->α->β->Prop} {f:α->St->Option (α × St)} (hm:∀ E E' x v,Env.le E E'->R E x v->R E' x v) (h:FStep Y w R f) :
  FStep Y w (Zl R) (mapMS f):=by
 intro xs
 induction xs with
 | nil =>
  intro xs' S S' E C vs hf hR hA hr;simp only [mapMS,Option.some.injEq,Prod.mk.injEq] at hf;obtain ⟨rfl,rfl⟩:=hf;exact ⟨E,hr,by rw [yI];exact hR,Go1.refl _ _,FlagLe.refl _,fun k h=>absurd rfl h⟩
 | cons x xs ih =>
  intro xs' S S' E C vs hf hR hA hr;simp only [mapMS] at hf
  split at hf
  ·rename_i y S1 h1
   split at hf
   ·rename_i ys S2 h2;simp only [Option.some.injEq,Prod.mk.injEq] at hf;obtain ⟨rfl,rfl⟩:=hf;cases vs with
    | nil=>have:=hr.1;simp at this
    | cons v vs =>
     obtain ⟨E1,r1,R1,g1,f1,c1⟩:=h x y S S1 E C v h1 hR hA (hr.2 0 _ _ rfl rfl);obtain ⟨E2,r2,R2,g2,f2,c2⟩:=ih ys S1 S2 E1 (updC C S S1) vs h2 R1 (f1.agree hA) ⟨by have:=hr.1;simpa using this,fun i a b ha hb=>hm _ _ _ _ g1.le (hr.2 (i + 1) a b (by simpa using ha) (by simpa using hb))⟩;refine ⟨E2,⟨by have:=r2.1;simp [this],fun i a b ha hb=>?_⟩,by rw [<- f1.upd f2];exact R2,g1.trans g2,f1.trans f2,fun k hk=>by
      by_cases he:S1[k]? = S[k]?
      ·have:=c2 k (by rw [he];exact hk);simp only [Go.Proofs.XVai.updC,he,if_true] at this;exact this
      ·exact c1 k he⟩
     cases i with
     | zero=>simp only [List.getElem?_cons_zero,Option.some.injEq] at ha hb;subst ha;subst hb;exact hm _ _ _ _ g2.le r1
     | succ i=>exact r2.2 i a b (by simpa using ha) (by simpa using hb)
   ·cases hf
  ·cases hf

theorem Yj {α β:Type} {f:α->St->Option (β × St)}:∀ {xs:List α} {ys:List β} {S S':St},mapMS f xs S = some (ys,S')->ys.length = xs.length:=by
 intro xs
 induction xs with
 | nil=>intro ys S S' h;simp only [mapMS,Option.some.injEq,Prod.mk.injEq] at h;simp [<- h.1]
 | cons x xs ih =>
  intro ys S S' h;simp only [mapMS] at h
  split at h
  ·split at h
   ·rename_i h2;simp only [Option.some.injEq,Prod.mk.injEq] at h;rw [<- h.1];simp [ih h2]
   ·cases h
  ·cases h
theorem zBD {α β:Type} {f:α->St->Option (β × St)}:∀ {xs:List α} {ys:List β} {S S':St},mapMS f xs S = some (ys,S')->∀ (i:Nat) (y:β),ys[i]? = some y->∃ x S1 S2,xs[i]? = some x/\f x S1 = some (y,S2):=by
 intro xs
 induction xs with
 | nil=>intro ys S S' h i y hy;simp only [mapMS,Option.some.injEq,Prod.mk.injEq] at h;rw [<- h.1] at hy;simp at hy
 | cons x xs ih =>
  intro ys S S' h i y hy;simp only [mapMS] at h
  split at h
  ·rename_i y1 S1 h1
   split at h
   ·rename_i h2;simp only [Option.some.injEq,Prod.mk.injEq] at h;rw [<- h.1] at hy;cases i with
    | zero=>simp at hy;subst hy;exact ⟨x,_,_,rfl,h1⟩
    | succ i=>obtain ⟨x',a,b,h3,h4⟩:=ih h2 i y (by simpa using hy);exact ⟨x',a,b,by simpa using h3,h4⟩
   ·cases h
  ·cases h

theorem QT {Y:Sys} {E:Env} {C:Nat->Option Ob} {w:World} (hR:Rel Y E C w) {k n sz B cap:Nat} {fr:Bool} {rows:List (List HV)} {cs:Array Value} {ty:TypeId} (hC:C k = some (.cells fr rows))
  (hd:E.hd k rows.length = some (sz,some B,cap)) (hb:w.heap[B]? = some (.cells cs ty (0,0))) :
  let E':Env:={ E with M:=fun b o=>if b = B/\o < rows.length * sz then cs[o]? else E.M b o }
  Rel Y E' (vI C k (.cells true rows)) w/\Go1 E w E' w:=by
 intro E';have hcell:∀ o,w.cell? ⟨B,o,none⟩ = cs[o]?:=fun o=>cell_of_row w B o cs ty _ hb;have hle:E.le E':=by
  refine ⟨fun _ _ _ h=>h,fun _ _ h=>h,fun b o v h=>?_⟩;show (if b = B/\o < rows.length * sz then cs[o]? else E.M b o) = some v
  split
  ·rename_i h1;rw [<- hcell,<- h1.1];exact hR.mem _ _ _ h
  ·exact h
 refine ⟨⟨?_,?_,?_,?_,hR.inj,hR.injm,hR.hdm,hR.bound,?_,?_,zBs hR.nodummy k (by simp)⟩,⟨hle,rfl,rfl,rfl,Nat.le_refl _,fun _ _ _=>rfl,fun b h=>.inl h⟩⟩
 ·intro k1 n1 h1 hh;obtain ⟨fr1,rows1,h2,h3⟩:=hR.hdC k1 n1 h1 hh;simp only [vI]
  by_cases hk:k1 = k
  ·subst hk;rw [hC] at h2;cases h2;rw [if_pos rfl];exact ⟨_,_,rfl,h3⟩
  ·rw [if_neg hk];exact ⟨_,_,h2,h3⟩
 ·intro k1 r hr;obtain ⟨es,h1⟩:=hR.mpC k1 r hr;simp only [vI]
  by_cases hk:k1 = k
  ·subst hk;rw [hC] at h1;cases h1
  ·rw [if_neg hk];exact ⟨_,h1⟩
 ·intro k1 fr1 rows1 h1;simp only [vI] at h1;have hbase:∀ fr0,C k1 = some (.cells fr0 rows1)->(k1 = k->fr1 = true)->(k1≠k->fr0 = fr1)->∃ sz base cap,E'.hd k1 rows1.length = some (sz,base,cap)/\rows1.length<=cap/\(∀ r ∈ rows1,r.length = sz) /\
   (rows1 = []->cap = 0)/\(base = none->cap = 0)/\∀ B,base = some B->∃ cs ty,w.heap[B]? = some (.cells cs ty (0,0))/\cs.size = cap * sz /\
   (∀ (i j:Nat) (r:List HV) (c:HV),rows1[i]? = some r->r[j]? = some c->∃ v,cs[i * sz + j]? = some v/\VRel E' c v) /\
   (∀ o v,E'.M B o = some v->fr1 = true/\o < rows1.length * sz):=by
   intro fr0 h2 hf1 hf2;obtain ⟨sz1,b1,c1,g1,g2,g3,g4,g5,g6⟩:=hR.cells _ _ _ h2;refine ⟨sz1,b1,c1,g1,g2,g3,g4,g5,fun B1 hB1=>?_⟩;obtain ⟨cs1,ty1,e1,e2,e3,e4⟩:=g6 B1 hB1;refine ⟨cs1,ty1,e1,e2,fun i j r c hi hj=>?_,fun o v hv=>?_⟩
   ·obtain ⟨v,hv,hr⟩:=e3 i j r c hi hj;exact ⟨v,hv,hr.mono hle⟩
   ·replace hv:(if B1 = B/\o < rows.length * sz then cs[o]? else E.M B1 o) = some v:=hv
    split at hv
    ·rename_i h5;subst hB1;have hkk:k1 = k:=hR.inj _ _ _ _ _ _ _ _ _ g1 (h5.1 ▸ hd);refine ⟨hf1 hkk,?_⟩;subst hkk;rw [hC] at h2;cases h2;rw [hd] at g1;cases g1;exact h5.2
    ·obtain ⟨h6,h7⟩:=e4 o v hv
     by_cases hk:k1 = k
     ·exact ⟨hf1 hk,h7⟩
     ·exact ⟨by rw [<- hf2 hk];exact h6,h7⟩
  by_cases hk:k1 = k
  ·subst hk;rw [if_pos rfl] at h1;cases h1;exact hbase _ hC (fun _=>rfl) (fun h=>absurd rfl h)
  ·rw [if_neg hk] at h1;exact hbase _ h1 (fun h=>absurd h hk) (fun _=>rfl)
 ·intro k1 es h1;simp only [vI] at h1
  by_cases hk:k1 = k
  ·rw [if_pos hk] at h1;cases h1
  ·rw [if_neg hk] at h1;obtain ⟨r,en,cl,g1,g2,g3,g4⟩:=hR.maps _ _ h1;exact ⟨r,en,cl,g1,g2,g3,fun i e m he hm=>⟨((g4 i e m he hm).1).mono hle,((g4 i e m he hm).2).mono hle⟩⟩
 ·intro b o v hv
  replace hv:(if b = B/\o < rows.length * sz then cs[o]? else E.M b o) = some v:=hv
  split at hv
  ·rename_i h1;rw [h1.1,hcell];exact hv
  ·exact hR.mem _ _ _ hv
 ·intro g row hg;obtain ⟨h1,f,h2⟩:=hR.glob g row hg;exact ⟨h1,f,fun j c hj=>⟨hle.M _ _ _ (h2 j c hj).1,((h2 j c hj).2).mono hle⟩⟩

theorem V5 {C:Nat->Option Ob} {k:Nat} {o:Ob} (h:C k = some o):vI C k o = C:=by
 funext j;simp only [vI];split
 ·rename_i hj;rw [hj,h]
 ·rfl

theorem XU {Y:Sys} {w:World} (n0:Nat):∀ d,FStep Y w VRel (frzC n0 d):=by
 intro d
 induction d with
 | zero =>
  intro x x' S S' E C v hf hR hA hr;cases x <;> simp only [frzC,Option.some.injEq,Prod.mk.injEq] at hf
  case sl k n =>
   split at hf
   ·simp only [Option.some.injEq,Prod.mk.injEq] at hf;obtain ⟨rfl,rfl⟩:=hf;exact ⟨E,hr,by rw [yI];exact hR,Go1.refl _ _,FlagLe.refl _,fun k h=>absurd rfl h⟩
   ·cases hf
  case nils =>
   obtain ⟨rfl,rfl⟩:=hf;cases hr with
   | nils b=>exact ⟨E,.lst0 b 0,by rw [yI];exact hR,Go1.refl _ _,FlagLe.refl _,fun k h=>absurd rfl h⟩
  all_goals
   obtain ⟨rfl,rfl⟩:=hf;exact ⟨E,hr,by rw [yI];exact hR,Go1.refl _ _,FlagLe.refl _,fun k h=>absurd rfl h⟩
 | succ d ih =>
  intro x x' S S' E C v hf hR hA hr;cases x <;> simp only [frzC,Option.some.injEq,Prod.mk.injEq] at hf
  case sl k n =>
   split at hf
   ·simp only [Option.some.injEq,Prod.mk.injEq] at hf;obtain ⟨rfl,rfl⟩:=hf;exact ⟨E,hr,by rw [yI];exact hR,Go1.refl _ _,FlagLe.refl _,fun k h=>absurd rfl h⟩
   ·split at hf
    ·rename_i fr rows hS
     split at hf
     ·rename_i hn
      split at hf
      ·rename_i rows' S1 hm
       split at hf
       ·rename_i hp;simp only [Option.some.injEq,Prod.mk.injEq] at hf;obtain ⟨rfl,rfl⟩:=hf;subst hn;cases hr with
        | sl k n sz base cap hd hc =>
         obtain ⟨fr0,rows0,hC0,_⟩:=hR.hdC _ _ _ hd;have hC:C k = some (.cells fr rows):=by
          rcases hA k _ hC0 with h1 | h1 <;> rw [hS] at h1 <;> cases h1;exact hC0
         obtain ⟨sz',base',cap',h1,h2,h3,h4,h5,h6⟩:=hR.cells _ _ _ hC;rw [hd] at h1;simp only [Option.some.injEq,Prod.mk.injEq] at h1;obtain ⟨rfl,rfl,rfl⟩:=h1;cases rows with
         | nil =>
          simp only [mapMS,Option.some.injEq,Prod.mk.injEq] at hm;obtain ⟨rfl,rfl⟩:=hm
          -- no rows
          by_cases hfr:fr = true
          ·subst hfr;simp only [if_true];exact ⟨E,.lst0 _ _,by rw [yI];exact hR,Go1.refl _ _,FlagLe.refl _,fun k h=>absurd rfl h⟩
          ·have hfr':fr = false:=by cases fr <;> simp_all
           subst hfr';simp only [Bool.false_eq_true,if_false];have hC':updC C S (S.set k (.cells true [])) = vI C k (.cells true []):=uK hS (.inl hC);have key:Rel Y E (vI C k (.cells true [])) w:=by
            cases base with
            | some B =>
             obtain ⟨cs,ty,g1,g2,g3,g4⟩:=h6 B rfl;have:=QT (n:=0) hR hC hd g1;have e0:({ E with M:=fun b o=>if b = B/\o < ([]:List (List HV)).length * sz then cs[o]? else E.M b o }:Env) = E:=by
              cases E;simp
             simp only [e0] at this;exact this.1
            | none =>
             have hz0:∀ (x:List HV),x ∈ ([]:List (List HV))->x.length = sz:=by simp
             have hp:=hR.putCells k true [] sz none cap (.inr ⟨_,_,hC,Nat.le_refl _,fun _=>hd⟩) rfl rfl rfl (Nat.le_refl _) (fun _ _ _=>rfl) (fun B hB=>by cases hB) h2 hz0 h4 h5 (fun B hB=>by cases hB);have e0:xV E k ([]:List (List HV)).length (sz,none,cap) = E:=by
              cases E with
              | mk hd' mp' M' =>
               simp only [xV,Env.mk.injEq,and_true];funext a b
               split
               ·rename_i h7;rw [h7.1,h7.2];exact hd.symm
               ·rfl
             rw [e0] at hp;exact hp.1
           rw [hC'];refine ⟨E,.lst0 _ _,key,Go1.refl _ _,⟨by simp,fun j=>?_⟩,fun j hj=>?_⟩
           ·by_cases hj:j = k
            ·subst hj;right;exact ⟨[],hS,by rw [List.getElem?_set_self (List.getElem?_eq_some_iff.1 hS).1]⟩
            ·left;rw [List.getElem?_set_ne (Ne.symm hj)]
           ·by_cases hjk:j = k
            ·subst hjk;rw [hC,hS]
            ·rw [List.getElem?_set_ne (Ne.symm hjk)] at hj;exact absurd rfl hj
         | cons r0 rest =>
          have hne:base≠none:=fun h=>by have:=h5 h;simp at h2;omega
          obtain ⟨B,rfl⟩:=Option.ne_none_iff_exists'.1 hne;obtain ⟨cs,ty,g1,g2,g3,g4⟩:=h6 B rfl
          -- the values of the rows
          let vss:List (List Value):=(List.range (r0 :: rest).length).map fun i=>(List.range sz).map fun j=>(cs[i * sz + j]?).getD undef
          have hv:Zl (Zl VRel) E (r0 :: rest) vss:=by
           refine ⟨by simp [vss],fun i r vs hi hvs=>?_⟩;have hi':i < (r0 :: rest).length:=(List.getElem?_eq_some_iff.1 hi).1;simp only [vss,List.getElem?_map,List.getElem?_range hi',Option.map_some,Option.some.injEq] at hvs;subst hvs;refine ⟨by simp [h3 r (List.mem_of_getElem? hi)],fun j c v hj hvj=>?_⟩;have hj':j < sz:=by
            have:=(List.getElem?_eq_some_iff.1 hj).1;rw [h3 r (List.mem_of_getElem? hi)] at this;exact this
           simp only [List.getElem?_map,List.getElem?_range hj',Option.map_some,Option.some.injEq] at hvj;obtain ⟨u,hu,hr⟩:=g3 i j r c hi hj;rw [hu] at hvj;simp at hvj;subst hvj;exact hr
          have hstep:FStep Y w (Zl (Zl VRel)) (mapMS (mapMS (frzC n0 d))) :=
           FStep.list (fun E E' x v h hx=>⟨hx.1,fun i a b ha hb=>(hx.2 i a b ha hb).mono h⟩) (FStep.list (fun E E' x v h hx=>hx.mono h) ih)
          obtain ⟨E1,r1,R1,G1,F1,K1⟩:=hstep _ _ _ _ E C vss hm hR hA hv;have hS1:∃ fr1,S1[k]? = some (.cells fr1 (r0 :: rest))/\(fr = true->fr1 = true):=by
           rcases F1.2 k with h7 | ⟨rr,h7,h8⟩
           ·exact ⟨fr,h7.trans hS,fun h=>h⟩
           ·rw [hS] at h7;cases h7;exact ⟨true,h8,fun _=>rfl⟩
          obtain ⟨fr1,hS1,hfr1⟩:=hS1;have hC1:updC C S S1 k = some (.cells fr1 (r0 :: rest)):=by
           simp only [updC]
           split
           ·rename_i h7;rw [hC];rw [hS1,hS] at h7;exact h7.symm
           ·exact hS1
          have hd1:=G1.le.hd _ _ _ hd;have fz:=QT (n:=0) R1 hC1 hd1 g1;simp only at fz;have hlen':=Yj hm;have hrl:∀ r ∈ rows',r.length = sz:=by
           intro r hr;obtain ⟨i,hi⟩:=List.getElem?_of_mem hr;obtain ⟨x,a,b,hx1,hx2⟩:=zBD hm i r hi;rw [Yj hx2];exact h3 x (List.mem_of_getElem? hx1)
          have hpp:∀ r ∈ rows',∀ c ∈ r,zT c = true:=fun r hr c hc=>List.all_eq_true.1 (List.all_eq_true.1 hp r hr) c hc;have hvv:∀ (i j:Nat) (r:List HV) (c:HV),rows'[i]? = some r->r[j]? = some c->cs[i * sz + j]? = some ((cs[i * sz + j]?).getD undef)/\i * sz + j < (r0 :: rest).length * sz/\VRel E1 c ((cs[i * sz + j]?).getD undef):=by
           intro i j r c hi hj;have hi':i < (r0 :: rest).length:=by rw [<- hlen'];exact (List.getElem?_eq_some_iff.1 hi).1
           have hj':j < sz:=by
            have:=(List.getElem?_eq_some_iff.1 hj).1;rw [hrl r (List.mem_of_getElem? hi)] at this;exact this
           have hvs:vss[i]? = some ((List.range sz).map fun j=>(cs[i * sz + j]?).getD undef):=by
            simp only [vss,List.getElem?_map,List.getElem?_range hi',Option.map_some]
           have h8:=(r1.2 i r _ hi hvs).2 j c ((cs[i * sz + j]?).getD undef) hj (by simp only [List.getElem?_map,List.getElem?_range hj',Option.map_some]);have hlt:i * sz + j < (r0 :: rest).length * sz:=by
            have:i * sz + sz<=(r0 :: rest).length * sz:=by rw [<- Nat.succ_mul];exact Nat.mul_le_mul_right _ hi'
            omega
           have hlt2:i * sz + j < cs.size:=by
            rw [g2];exact Nat.lt_of_lt_of_le hlt (Nat.mul_le_mul_right _ h2)
           exact ⟨by rw [Array.getElem?_eq_getElem hlt2];rfl,hlt,h8⟩
          have hVfin:∀ E2:Env,E1.le E2->(∀ o,o < (r0 :: rest).length * sz->E2.M B o = cs[o]?)->VRel E2 (.lst rows') (.slice (some ⟨B,0,none⟩) (r0 :: rest).length cap):=by
           intro E2 hle2 hM2;rw [<- hlen'];refine .lst rows' B 0 cap sz (fun h=>by rw [h] at hlen';simp at hlen') (by rw [hlen'];exact h2) hrl hpp (fun i j=>(cs[i * sz + j]?).getD undef) (fun i j r c hi hj=>?_) (fun i j r c hi hj=>?_)
           ·rw [Nat.zero_add,hM2 _ (hvv i j r c hi hj).2.1];exact (hvv i j r c hi hj).1
           ·exact ((hvv i j r c hi hj).2.2).mono hle2
          by_cases hfr:fr = true
          ·subst hfr;have hf1:fr1 = true:=hfr1 rfl;subst hf1;simp only [if_true];rw [V5 hC1] at fz;refine ⟨_,hVfin _ fz.2.le (fun o ho=>?_),fz.1,G1.trans fz.2,F1,K1⟩;exact if_pos ⟨rfl,ho⟩
          ·have hfr':fr = false:=by cases fr <;> simp_all
           subst hfr';simp only [Bool.false_eq_true,if_false];have hF2:FlagLe S1 (S1.set k (.cells true (r0 :: rest))):=by
            refine ⟨by simp,fun j=>?_⟩
            by_cases hj:j = k
            ·subst hj;rw [List.getElem?_set_self (List.getElem?_eq_some_iff.1 hS1).1];cases fr1
             ·right;exact ⟨_,hS1,rfl⟩
             ·left;exact hS1.symm
            ·left;rw [List.getElem?_set_ne (Ne.symm hj)]
           have hC2:updC (updC C S S1) S1 (S1.set k (.cells true (r0 :: rest))) = vI (updC C S S1) k (.cells true (r0 :: rest)):=uK hS1 (.inl hC1);refine ⟨_,hVfin _ fz.2.le (fun o ho=>?_),?_,G1.trans fz.2,F1.trans hF2,fun j hj=>?_⟩
           ·exact if_pos ⟨rfl,ho⟩
           ·rw [<- F1.upd hF2,hC2];exact fz.1
           ·by_cases hjk:j = k
            ·subst hjk;rw [hC,hS]
            ·rw [List.getElem?_set_ne (Ne.symm hjk)] at hj;exact K1 j hj
       ·cases hf
      ·cases hf
     ·cases hf
    ·cases hf
  case nils =>
   obtain ⟨rfl,rfl⟩:=hf;cases hr with
   | nils b=>exact ⟨E,.lst0 b 0,by rw [yI];exact hR,Go1.refl _ _,FlagLe.refl _,fun k h=>absurd rfl h⟩
  all_goals
   obtain ⟨rfl,rfl⟩:=hf;exact ⟨E,hr,by rw [yI];exact hR,Go1.refl _ _,FlagLe.refl _,fun k h=>absurd rfl h⟩

theorem QV {Y:Sys} {w:World} (n0:Nat):FStep Y w VRel (frzV n0):=by
 intro x x' S S' E C v hf hR hA hr;cases x
 case agg cs =>
  simp only [frzV] at hf
  split at hf
  ·rename_i cs' S1 h1;simp only [Option.some.injEq,Prod.mk.injEq] at hf;obtain ⟨rfl,rfl⟩:=hf;cases hr with
   | agg cs vs hl h =>
    obtain ⟨E1,r1,R1,G1,F1,K1⟩:=FStep.list (fun E E' x v h hx=>hx.mono h) (XU (Y:=Y) (w:=w) n0 6) cs cs' S S1 E C vs.toList h1 hR hA ⟨by simpa using hl,fun i a b ha hb=>h i a b ha (by simpa using hb)⟩;exact ⟨E1,.agg _ _ (by simpa using r1.1) (fun i a b ha hb=>r1.2 i a b ha (by simpa using hb)),R1,G1,F1,K1⟩
  ·cases hf
 all_goals exact XU n0 6 _ _ _ _ E C v (by simpa only [frzV] using hf) hR hA hr

theorem zFq {Y:Sys} {w:World} (n0:Nat):FStep Y w VRel (frzR n0):=by
 intro x x' S S' E C v hf hR hA hr;cases x
 case tup cs =>
  simp only [frzR] at hf
  split at hf
  ·rename_i cs' S1 h1;simp only [Option.some.injEq,Prod.mk.injEq] at hf;obtain ⟨rfl,rfl⟩:=hf;cases hr with
   | tup cs vs hl h =>
    obtain ⟨E1,r1,R1,G1,F1,K1⟩:=FStep.list (fun E E' x v h hx=>hx.mono h) (QV (Y:=Y) (w:=w) n0) cs cs' S S1 E C vs.toList h1 hR hA ⟨by simpa using hl,fun i a b ha hb=>h i a b ha (by simpa using hb)⟩;exact ⟨E1,.tup _ _ (by simpa using r1.1) (fun i a b ha hb=>r1.2 i a b ha (by simpa using hb)),R1,G1,F1,K1⟩
  ·cases hf
 all_goals exact QV n0 _ _ _ _ E C v (by simpa only [frzR] using hf) hR hA hr

end Go.Proofs.XVai
end
section
namespace Go.Proofs.XVai
open Go

def Kept3 (C:Nat->Option Ob) (S S':St) (pl:Option Nat):Prop:=∀ k,k < S.length->S'[k]?≠S[k]?->some k≠pl->C k = S[k]?/\(C k).isSome = true

theorem Kept3.same (C:Nat->Option Ob) (S:St) (pl:Option Nat):Kept3 C S S pl:=fun _ _ h=>absurd rfl h
theorem Kept3.new (C:Nat->Option Ob) (S:St) (pl:Option Nat) (o:Ob):Kept3 C S (newOb pl S o).2 pl:=by
 intro k hk h hp;cases pl with
 | none=>exact absurd (List.getElem?_append_left hk) h
 | some s=>exact absurd (List.getElem?_set_ne (fun e=>hp (by rw [e]))) h
theorem Kept3.set {C:Nat->Option Ob} {S:St} {pl:Option Nat} {k:Nat} {old:Ob} (o:Ob) (hC:C k = some old) (hS:S[k]? = some old):Kept3 C S (S.set k o) pl:=by
 intro j hj h hp
 by_cases e:j = k
 ·subst e;rw [hC,hS];exact ⟨rfl,rfl⟩
 ·exact absurd (List.getElem?_set_ne (Ne.symm e)) h
theorem Kept3.flag {C:Nat->Option Ob} {S S':St} {pl:Option Nat} (h:∀ (k:Nat),S'[k]?≠S[k]?->C k = S[k]?):Kept3 C S S' pl:=fun k hk hne _ =>
 ⟨h k hne,by rw [h k hne,List.getElem?_eq_getElem hk];rfl⟩
theorem Kept3.ext {C:Nat->Option Ob} {S S':St} {pl:Option Nat} (h:∀ k,k < S.length->S'[k]? = S[k]?):Kept3 C S S' pl:=fun k hk hne=>absurd (h k hk) hne

def Sim (P:Program) (Y:Sys) (E:Env) (C:Nat->Option Ob) (w:World) (S S':St) (pl:Option Nat) (o:Oper) (ρ:Operand->Value) (hv:HV):Prop :=
 ∃ v w' E',((execOp ρ o).run P w = .ok (.value v) w'\/((execOp ρ o).run P w = .ok .skip w'/\v = undef))/\VRel E' hv v/\Rel Y E' (updC C S S') w'/\Go1 E w E' w'/\Kept3 C S S' pl

theorem Sim.same {P:Program} {Y:Sys} {E:Env} {C:Nat->Option Ob} {w:World} {S:St} {pl:Option Nat} {o:Oper} {ρ:Operand->Value} {hv:HV} {v:Value} (hR:Rel Y E C w)
  (h:(execOp ρ o).run P w = .ok (.value v) w) (hx:VRel E hv v):Sim P Y E C w S S pl o ρ hv :=
 ⟨v,w,E,.inl h,hx,by rw [yI];exact hR,Go1.refl _ _,Kept3.same _ _ _⟩

def WR (C:Nat->Option Ob) (n:Nat):St:=(List.range n).map fun k=>(C k).getD .dummy
theorem VA {C:Nat->Option Ob} {n:Nat} (h:∀ k,n<=k->C k = none):∀ k,yV C (WR C n) k:=by
 intro k o ho;rcases Nat.lt_or_ge k n with hk | hk
 ·left;simp [WR,List.getElem?_range hk,ho]
 ·rw [h k hk] at ho;cases ho
theorem zDq {C:Nat->Option Ob} {n k:Nat} {o:Ob} (hk:k < n) (ho:C k = some o):(WR C n)[k]? = some o:=by
 simp [WR,List.getElem?_range hk,ho]

theorem yx {n0 d:Nat} {c:HV} {S:St} (h:zT c = true):frzC n0 d c S = some (c,S):=by
 cases c <;> simp [zT] at h <;> cases d <;> simp [frzC]
theorem QU {n0 d:Nat} {c:HV} (h:zT c = true\/c = .nils):∃ c',∀ S,frzC n0 d c S = some (c',S):=by
 rcases h with h | rfl
 ·exact ⟨c,fun S=>yx h⟩
 ·exact ⟨.lst [],fun S=>by cases d <;> simp [frzC]⟩
theorem YM {α:Type} {f:α->St->Option (α × St)} {xs:List α} (h:∀ x ∈ xs,∃ x',∀ S,f x S = some (x',S)):∃ xs',∀ S,mapMS f xs S = some (xs',S):=by
 induction xs with
 | nil=>exact ⟨[],fun S=>rfl⟩
 | cons x xs ih =>
  obtain ⟨x',hx⟩:=h x (by simp);obtain ⟨xs',hxs⟩:=ih fun y hy=>h y (by simp [hy]);exact ⟨x' :: xs',fun S=>by simp [mapMS,hx,hxs]⟩

section
variable {P:Program} {Y:Sys} {E:Env} {C:Nat->Option Ob} {w:World}

theorem zE5 (hY:SysOk Y P) (hR:Rel Y E C w) {S:St} {pl:Option Nat} (hN:X4 C S pl) {t:Nat} {ti:TI} (ht:Y.tab t = some ti) {o:Oper} (ho:o.op = .alloc t) (ρ:Operand->Value) :
  Sim P Y E C w S (newOb pl S (.cells false [ti.zero])).2 pl o ρ (.ptr (newOb pl S (.cells false [ti.zero])).1 1 0 0):=by
 have hT:=hY.tab _ _ ht;obtain ⟨z,hz,hok,hzero,hsz⟩:=hT.run_zero w;have hlen:=hT.zlen;obtain ⟨R1,G1⟩:=YX hR (VD hN _) false [ti.zero] ti.size z.cells t (by simp [hlen]) (by simp [hsz]) (fun i j r c hi hj=>by
  cases i with
  | zero =>
   simp at hi;subst hi;have hj':j < z.cells.size:=by rw [hsz,<- hlen];exact (List.getElem?_eq_some_iff.1 hj).1
   refine ⟨z.cells[j],by simp [hj'],(Xi (E:=E) hok).2 j c _ (by rw [<- hzero];exact hj) (by simp [hj'])⟩
  | succ i=>simp at hi)
 refine ⟨.pointer (some ⟨w.heap.size,0,none⟩),_,_,.inl ?_,?_,by rw [YN hN (by simp)];exact R1,G1,Kept3.new _ _ _ _⟩
 ·unfold execOp;simp only [ho,Instr.alloc,newVar,newRow,Sem.run_bind,hz,Result.andThen_ok,run_newObj,Sem.run_pure]
 ·have:=VRel.ptr (E:=xV E (newOb pl S (Ob.cells false [ti.zero])).1 [ti.zero].length (ti.size,some w.heap.size,[ti.zero].length)) (newOb pl S (.cells false [ti.zero])).1 1 0 0 ti.size w.heap.size 1 (by simp [xV]);simpa using this

theorem zG8 (hR:Rel Y E C w) {S:St} {pl:Option Nat} (hN:X4 C S pl) {t:Nat} {x:Operand} {c:HV} {o:Oper} (ho:o.op = .box t x) (ρ:Operand->Value) (hx:VRel E c (ρ x)) :
  Sim P Y E C w S (newOb pl S (.cells false [c.cells])).2 pl o ρ (.ptr (newOb pl S (.cells false [c.cells])).1 1 0 0):=by
 have hc:=QL hx;obtain ⟨R1,G1⟩:=YX hR (VD hN _) false [c.cells] c.cells.length (ρ x).cells t (by simp) (by simp [hc.1]) (fun i j r d hi hj=>by
  cases i with
  | zero =>
   simp at hi;subst hi;have hj':j < (ρ x).cells.size:=by rw [<- hc.1];exact (List.getElem?_eq_some_iff.1 hj).1
   exact ⟨(ρ x).cells[j],by simp [hj'],hc.2 j d _ hj (by simp [hj'])⟩
  | succ i=>simp at hi)
 refine ⟨.pointer (some ⟨w.heap.size,0,none⟩),_,_,.inl ?_,?_,by rw [YN hN (by simp)];exact R1,G1,Kept3.new _ _ _ _⟩
 ·unfold execOp;simp only [ho,Instr.box,newVar,newRow,Sem.run_bind,Result.andThen_ok,run_newObj,Sem.run_pure]
 ·have:=VRel.ptr (E:=xV E (newOb pl S (Ob.cells false [c.cells])).1 [c.cells].length (c.cells.length,some w.heap.size,[c.cells].length)) (newOb pl S (.cells false [c.cells])).1 1 0 0 c.cells.length w.heap.size 1 (by simp [xV]);simpa using this

theorem UV (fl:Nat->Bool):∀ (vs:List Value) (j:Nat) (S S':St) (E:Env) (C:Nat->Option Ob) (row':List HV),vs.all vW = true->promote fl j (vs.map xM) S = (row',S')->Rel Y E C w ->
  (∀ k,S.length<=k->C k = none)->∃ E',Rel Y E' (updC C S S') w/\Go1 E w E' w/\(∀ k,S'.length<=k->updC C S S' k = none)/\S.length<=S'.length/\(∀ k,k < S.length->S'[k]? = S[k]?)/\Zl VRel E' row' vs:=by
 intro vs
 induction vs with
 | nil =>
  intro j S S' E C row' _ hp hR hN;simp only [List.map_nil,promote,Prod.mk.injEq] at hp;obtain ⟨rfl,rfl⟩:=hp;exact ⟨E,by rw [yI];exact hR,Go1.refl _ _,by rw [yI];exact hN,Nat.le_refl _,fun _ _=>rfl,rfl,by simp⟩
 | cons v vs ih =>
  intro j S S' E C row' hok hp hR hN;have hv:vW v = true:=by simp at hok;exact hok.1
  have hvs:vs.all vW = true:=by simp at hok;simpa using hok.2
  by_cases hn:xM v = .nils
  ·have hval:v = .slice none 0 0:=by
    unfold vW at hv
    split at hv <;> first | (cases hv;done) | (simp [xM] at hn;done) | rfl
   simp only [List.map_cons,hn,promote] at hp;generalize hq:promote fl (j + 1) (vs.map xM) (S++[.cells (!fl j) []]) = q at hp;obtain ⟨cs',S2⟩:=q;simp only [Prod.mk.injEq] at hp;obtain ⟨rfl,rfl⟩:=hp;obtain ⟨R1,G1⟩:=zA6 hR (hN S.length (Nat.le_refl _)) (!fl j);have hN1:∀ k,(S++[Ob.cells (!fl j) []]).length<=k->vI C S.length (.cells (!fl j) []) k = none:=by
    intro k hk;simp at hk;simp only [vI];rw [if_neg (by omega)];exact hN k (by omega)
   obtain ⟨E',R2,G2,N2,L2,K2,V2⟩:=ih (j + 1) _ _ _ _ _ hvs hq R1 hN1;have hcomp:updC (vI C S.length (.cells (!fl j) [])) (S++[.cells (!fl j) []]) S2 = updC C S S2:=by
    funext k;simp only [updC,vI];have hlen:(S++[Ob.cells (!fl j) []]).length = S.length + 1:=by simp
    rcases Nat.lt_trichotomy k S.length with hk | hk | hk
    ·have h1:S2[k]? = S[k]?:=by rw [K2 k (by omega),List.getElem?_append_left hk]
     have h2:(S++[Ob.cells (!fl j) []])[k]? = S[k]?:=List.getElem?_append_left hk;rw [if_neg (show ¬ k = S.length by omega),h1,h2,if_pos rfl]
    ·subst hk;rw [K2 S.length (by omega)];simp
    ·have h2:(S++[Ob.cells (!fl j) []])[k]? = none:=List.getElem?_eq_none (by omega);have h3:S[k]? = none:=List.getElem?_eq_none (by omega);rw [if_neg (show ¬ k = S.length by omega),h2,h3]
   rw [hcomp] at R2 N2;refine ⟨E',R2,G1.trans G2,N2,by simp at L2;omega,fun k hk=>by rw [K2 k (by rw [List.length_append];omega),List.getElem?_append_left hk],by have:=V2.1;simp [this],fun i a b ha hb=>?_⟩;cases i with
   | zero =>
    simp only [List.getElem?_cons_zero,Option.some.injEq] at ha hb;subst ha;subst hb;subst hval;exact .sl S.length 0 0 none 0 (G2.le.hd _ _ _ (by simp [xV])) (Nat.le_refl _)
   | succ i=>exact V2.2 i a b (by simpa using ha) (by simpa using hb)
  ·have hstep:promote fl j (xM v :: vs.map xM) S = ((xM v :: (promote fl (j + 1) (vs.map xM) S).1),(promote fl (j + 1) (vs.map xM) S).2):=by
    cases hc:xM v <;> first | (exact absurd hc hn) | (simp [promote])
   rw [List.map_cons,hstep] at hp;simp only [Prod.mk.injEq] at hp;obtain ⟨rfl,rfl⟩:=hp;obtain ⟨E',R2,G2,N2,L2,K2,V2⟩:=ih (j + 1) S _ E C _ hvs rfl hR hN;refine ⟨E',R2,G2,N2,L2,K2,by have:=V2.1;simp [this],fun i a b ha hb=>?_⟩;cases i with
   | zero =>
    simp only [List.getElem?_cons_zero,Option.some.injEq] at ha hb;subst ha;subst hb;exact ZE hv
   | succ i=>exact V2.2 i a b (by simpa using ha) (by simpa using hb)

theorem zBJ (hR:Rel Y E C w) {S:St} (hN:∀ k,S.length<=k->C k = none) (fr:Bool) {o:Oper} (ρ:Operand->Value) (h:(execOp ρ o).run P w = .ok (.value (.slice none 0 0)) w) :
  Sim P Y E C w S (S++[.cells fr []]) none o ρ (.sl S.length 0):=by
 obtain ⟨R1,G1⟩:=zA6 hR (hN S.length (Nat.le_refl _)) fr;have hc:updC C S (S++[.cells fr []]) = vI C S.length (.cells fr []):=by
  have:=YN (C:=C) (S:=S) (pl:=none) hN (o:=.cells fr []) (by simp);simpa [newOb] using this
 refine ⟨_,w,_,.inl h,?_,by rw [hc];exact R1,G1,Kept3.ext fun k hk=>List.getElem?_append_left hk⟩;exact .sl S.length 0 0 none 0 (by simp [xV]) (Nat.le_refl _)

theorem zGd (hY:SysOk Y P) {t:Nat} {ti:TI} (ht:Y.tab t = some ti) (fl:Nat->Bool) {pr:Bool} {S S1:St} {row:List HV} (hR:Rel Y E C w) (hpr:pr = true->∀ k,S.length<=k->C k = none)
  (hz:zrow fl pr ti.zero S = (row,S1)):∃ E' z,(∀ w,(zeroValue t).run P w = .ok z w)/\z.cells.size = ti.size/\Rel Y E' (updC C S S1) w/\Go1 E w E' w/\CellsRel E' row z.cells/\(∀ k,k < S.length->S1[k]? = S[k]?):=by
 have hT:=hY.tab _ _ ht;obtain ⟨i,z,h1,h2,_,h4,hok,hzero,hsz,_⟩:=hT.info;have hzv:∀ w,(zeroValue t).run P w = .ok z w:=fun w=>by simp [zeroValue,typeInfo,h1,h4]
 unfold zrow at hz;cases pr with
 | false =>
  simp only [Bool.false_eq_true,if_false,Prod.mk.injEq] at hz;obtain ⟨rfl,rfl⟩:=hz;exact ⟨E,z,hzv,hsz,by rw [yI];exact hR,Go1.refl _ _,by rw [hzero];exact Xi hok,fun _ _=>rfl⟩
 | true =>
  simp only [if_true] at hz;rw [hzero] at hz;obtain ⟨E',R2,G2,_,_,K2,V2⟩:=UV (Y:=Y) (w:=w) fl z.cells.toList 0 S S1 E C row hok hz hR (hpr rfl);exact ⟨E',z,hzv,hsz,R2,G2,⟨by simpa using V2.1,fun j c v h1 h2=>V2.2 j c v h1 (by simpa using h2)⟩,K2⟩

theorem Vx {T:Tm} {ρ:Operand->Value} {parts:Array (Nat × Operand)} (hx:∀ p ∈ parts.toList,VRel E (ev T p.2) (ρ p.2)) :
  (parts.toList.map fun (i,x)=>(i,ev T x)).length = (parts.map fun (i,x)=>(i,ρ x)).toList.length /\
  ∀ (j:Nat) (p:Nat × HV) (q:Nat × Value),(parts.toList.map fun (i,x)=>(i,ev T x))[j]? = some p->(parts.map fun (i,x)=>(i,ρ x)).toList[j]? = some q->p.1 = q.1/\VRel E p.2 q.2:=by
 refine ⟨by simp,fun j p q h1 h2=>?_⟩;simp only [Array.toList_map,List.getElem?_map] at h1 h2;cases h:parts.toList[j]? with
 | none=>simp [h] at h1
 | some a =>
  obtain ⟨i,x⟩:=a;simp only [h,Option.map_some,Option.some.injEq] at h1 h2;subst h1;subst h2;exact ⟨rfl,hx (i,x) (List.mem_of_getElem? h)⟩

theorem Uu (P:Program) (w:World) (f:Field->Option Nat):∀ (l:List Field),(∀ x ∈ l,∃ j,P.info? x.type = some j/\f x = some j.size) ->
  (l.mapM (fun x=>(do pure (x.offset,<- sizeOf x.type):Sem (Nat × Nat)))).run P w = .ok (l.map fun x=>(x.offset,(f x).getD 0)) w:=by
 intro l
 induction l with
 | nil=>intro _;rfl
 | cons x l ih =>
  intro h;obtain ⟨j,hj,hf⟩:=h x (by simp);have hs:(sizeOf x.type).run P w = .ok j.size w:=by simp [sizeOf,typeInfo,hj]
  have:=ih fun y hy=>h y (by simp [hy]);rw [List.mapM_cons];simp only [Sem.run_bind,hs,Result.andThen_ok,Sem.run_pure,this];simp [hf]

theorem zE6 (hY:SysOk Y P) {S S1:St} {pl:Option Nat} (fl:Nat->Bool) {pr:Bool} {row row':List HV} {T:Tm} {t:Nat} {ti:TI} (ht:Y.tab t = some ti) {parts:Array (Nat × Operand)} {o:Oper} (ho:o.op = .build t parts) (ρ:Operand->Value)
  (hR:Rel Y E C w) (hpr:pr = true->∀ k,S.length<=k->C k = none) (hx:∀ p ∈ parts.toList,VRel E (ev T p.2) (ρ p.2))
  (hz:zrow fl pr ti.zero S = (row,S1)) (hbl:buildable Y ti.sh = true) (hf:UL Y ti.sh (parts.toList.map fun (i,x)=>(i,ev T x)) row = some row'):Sim P Y E C w S S1 pl o ρ (.agg row'):=by
 obtain ⟨E1,z,hzv,hsz,R1,G1,V1,K1⟩:=zGd (P:=P) hY ht fl hR hpr hz;have hT:=hY.tab _ _ ht;have hp:=Vx (E:=E1) (T:=T) (ρ:=ρ) fun p hp=>(hx p hp).mono G1.le;have hsh:=hT.sh;cases hs:ti.sh with
 | strct fs =>
  rw [hs] at hsh hf;obtain ⟨fields,hu,hfl,hff⟩:=hsh;obtain ⟨cells',h1,h2⟩:=Wl (Y:=Y) (E:=E1) (sh:=.strct fs) (pl:=fun i=>((fields.toList.map fun x=>(x.offset,((P.info? x.type).map (·.size)).getD 0)))[i]?) (fun i p hpi=>by
   simp only [place] at hpi;obtain ⟨f,h1,h2⟩:=Option.map_eq_some_iff.1 hpi;have hi:i < fields.size:=by rw [hfl];exact (List.getElem?_eq_some_iff.1 h1).1
   obtain ⟨j,h3,h4⟩:=hff i fields[i] (by simp [hi]);rw [h1] at h4;simp only [Option.some.injEq] at h4;subst h4;simp [hi,h3,<- h2]) hp.1 hp.2 V1 hf
  refine ⟨.agg cells',w,E1,.inl ?_,.agg _ _ h2.1 h2.2,R1,G1,Kept3.ext K1⟩;unfold execOp;simp only [ho,Instr.build,Sem.run_bind,hzv,Result.andThen_ok,run_underlying hu,Array.mapM_eq_mapM_toList];have hm:=Uu P w (fun x=>(P.info? x.type).map (·.size)) fields.toList (fun x hx=>by
   obtain ⟨i,hi⟩:=List.getElem?_of_mem hx;obtain ⟨j,h3,_⟩:=hff i x (by simpa using hi);exact ⟨j,h3,by simp [h3]⟩)
  simp only [Sem.run_map,hm,Result.andThen_ok,List.getElem?_toArray,h1];simp
 | arr n e =>
  rw [hs] at hsh hf;rw [hs] at hbl;simp only [buildable] at hbl;obtain ⟨te,h⟩:=Option.isSome_iff_exists.1 hbl;obtain ⟨cells',h1,h2⟩:=Wl (Y:=Y) (E:=E1) (sh:=.arr n e) (pl:=fun i=>some (i * te.size,te.size)) (fun i p hpi=>by
   simp only [place,yj,h,Option.map_some,Option.some.injEq] at hpi;rw [<- hpi]) hp.1 hp.2 V1 hf
  refine ⟨.agg cells',w,E1,.inl ?_,.agg _ _ h2.1 h2.2,R1,G1,Kept3.ext K1⟩;unfold execOp;have hse:=(hY.tab _ _ h).run_size w;simp only [ho,Instr.build,Sem.run_bind,hzv,Result.andThen_ok,run_underlying hsh,hse,h1];simp
 | _=>rw [hs] at hbl;simp [buildable] at hbl

end
end Go.Proofs.XVai
end
section
namespace Go.Proofs.XVai
open Go

theorem XT {α:Type} {z:Nat}:∀ {rows:List (List α)},(∀ r ∈ rows,r.length = z)->∀ (i j:Nat) (r:List α) (c:α),rows[i]? = some r->r[j]? = some c->rows.flatten[i * z + j]? = some c:=by
 intro rows
 induction rows with
 | nil=>intro _ i j r c h;simp at h
 | cons r0 rest ih =>
  intro hz i j r c hi hj;have h0:r0.length = z:=hz r0 (by simp);cases i with
  | zero =>
   simp at hi;subst hi;rw [List.flatten_cons,Nat.zero_mul,Nat.zero_add,List.getElem?_append_left (List.getElem?_eq_some_iff.1 hj).1];exact hj
  | succ i =>
   rw [List.flatten_cons,List.getElem?_append_right (by rw [h0,Nat.succ_mul];omega)];have:=ih (fun r hr=>hz r (by simp [hr])) i j r c (by simpa using hi) hj;rw [h0,show (i + 1) * z + j - z = i * z + j by rw [Nat.succ_mul];omega];exact this

theorem ZQ {α:Type} {z:Nat}:∀ {rows:List (List α)},(∀ r ∈ rows,r.length = z)->rows.flatten.length = rows.length * z:=by
 intro rows
 induction rows with
 | nil=>intro _;simp
 | cons r0 rest ih =>
  intro hz;rw [List.flatten_cons,List.length_append,ih (fun r hr=>hz r (by simp [hr])),hz r0 (by simp),List.length_cons,Nat.succ_mul,Nat.add_comm]

theorem Xb (cs:List HV):∀ (a b:List HV) (off:Nat),off + cs.length<=a.length->setCells (a++b) off cs = setCells a off cs++b:=by
 induction cs with
 | nil=>intro a b off _;rfl
 | cons c cs ih =>
  intro a b off h;simp only [setCells,List.length_cons] at h ⊢;rw [List.set_append_left _ _ (by omega),ih _ _ _ (by simp;omega)]
theorem XJ (cs:List HV):∀ (a b:List HV) (off:Nat),setCells (a++b) (a.length + off) cs = a++setCells b off cs:=by
 induction cs with
 | nil=>intro a b off;rfl
 | cons c cs ih =>
  intro a b off;simp only [setCells];rw [List.set_append_right _ _ (by omega),show a.length + off - a.length = off by omega,Nat.add_assoc,ih]
theorem Q5 (cs:List HV):∀ (a:List HV),a.length = cs.length->setCells a 0 cs = cs:=by
 have key:∀ (cs pre a:List HV),a.length = cs.length->setCells (pre++a) pre.length cs = pre++cs:=by
  intro cs
  induction cs with
  | nil=>intro pre a h;have:a = []:=List.eq_nil_of_length_eq_zero h;subst this;rfl
  | cons c cs ih =>
   intro pre a h;cases a with
   | nil=>simp at h
   | cons x a =>
    simp only [setCells];rw [List.set_append_right _ _ (Nat.le_refl _),Nat.sub_self,List.set_cons_zero];have:=ih (pre++[c]) a (by simpa using h);simpa using this
 intro a h;have:=key cs [] a h;simpa using this

theorem zDB {z:Nat} (v:List HV) (hv:v.length = z):∀ (rows:List (List HV)) (i:Nat),(∀ r ∈ rows,r.length = z)->i < rows.length->(rows.set i v).flatten = setCells rows.flatten (i * z) v:=by
 intro rows
 induction rows with
 | nil=>intro i _ h;simp at h
 | cons r0 rest ih =>
  intro i hz hi;have h0:r0.length = z:=hz r0 (by simp);cases i with
  | zero =>
   rw [List.set_cons_zero,List.flatten_cons,List.flatten_cons,Nat.zero_mul,Xb _ _ _ _ (by omega),Q5 v r0 (by omega)]
  | succ i =>
   rw [List.set_cons_succ,List.flatten_cons,List.flatten_cons,ih i (fun r hr=>hz r (by simp [hr])) (by simpa using hi)];have:=XJ v r0 rest.flatten (i * z);rw [h0] at this;rw [<- this,Nat.succ_mul,Nat.add_comm]

theorem QP {Y:Sys} {el z n:Nat} (hz:yj Y el = some z):∀ (parts:List (Nat × HV)) (rows rows':List (List HV)),(∀ r ∈ rows,r.length = z)->XC z parts rows = some rows' ->
  UL Y (.arr n el) parts rows.flatten = some rows'.flatten/\(∀ r ∈ rows',r.length = z)/\rows'.length = rows.length:=by
 intro parts
 induction parts with
 | nil=>intro rows rows' h hf;simp only [XC,Option.some.injEq] at hf;subst hf;exact ⟨rfl,h,rfl⟩
 | cons p parts ih =>
  intro rows rows' h hf;obtain ⟨i,v⟩:=p;simp only [XC] at hf
  split at hf
  ·rename_i hc;have hset:∀ r ∈ rows.set i v.cells,r.length = z:=fun r hr=>(List.mem_or_eq_of_mem_set hr).elim (h r) (fun e=>e ▸ hc.1);obtain ⟨h1,h2,h3⟩:=ih _ _ hset hf;refine ⟨?_,h2,by simpa using h3⟩;simp only [UL,place,hz,Option.map_some];rw [if_pos,<- zDB v.cells hc.1 rows i h hc.2]
   ·exact h1
   ·refine ⟨hc.1,?_⟩;rw [ZQ h];have:i * z + z<=rows.length * z:=by rw [<- Nat.succ_mul];exact Nat.mul_le_mul_right _ hc.2
    exact this
  ·cases hf

section
variable {P:Program} {Y:Sys} {E:Env} {C:Nat->Option Ob} {w:World}

theorem zC4 (hR:Rel Y E C w) (o:Obj):Rel Y E C { w with heap:=w.heap.push o }/\Go1 E w E { w with heap:=w.heap.push o }:=by
 have hget:∀ b,b < w.heap.size->(w.heap.push o)[b]? = w.heap[b]?:=fun b hb=>by simp [Array.getElem?_push];omega
 refine ⟨⟨hR.hdC,hR.mpC,?_,?_,hR.inj,hR.injm,hR.hdm,?_,?_,hR.glob,hR.nodummy⟩,⟨.refl _,rfl,rfl,rfl,by simp,fun b hb _=>hget b hb,fun b h=>.inl h⟩⟩
 ·intro k fr rows h;obtain ⟨sz,base,cap,h1,h2,h3,h4,h5,h6⟩:=hR.cells k fr rows h;refine ⟨sz,base,cap,h1,h2,h3,h4,h5,fun B hB=>?_⟩;obtain ⟨cs,ty,g1,g2⟩:=h6 B hB;exact ⟨cs,ty,by show (w.heap.push o)[B]? = _;rw [hget B (Array.getElem?_eq_some_iff.1 g1).1];exact g1,g2⟩
 ·intro k es h;obtain ⟨r,en,cl,h1,h2,h3⟩:=hR.maps k es h;exact ⟨r,en,cl,h1,by show (w.heap.push o)[r]? = _;rw [hget r (Array.getElem?_eq_some_iff.1 h2).1];exact h2,h3⟩
 ·intro k n sz B cap h;have:=hR.bound _ _ _ _ _ h;simp;omega
 ·intro b p v h;have hm:=hR.mem _ _ _ h;unfold World.cell? at hm ⊢;have hb:b < w.heap.size:=by
   rcases Nat.lt_or_ge b w.heap.size with h | h
   ·exact h
   ·simp [Array.getElem?_eq_none h] at hm
  show (match (w.heap.push o)[b]? with | some (.cells c _ _)=>if (none:Option Nat).isSome then none else c[p]? | _=>none) = some v;rw [hget b hb];exact hm

theorem zEM (hR:Rel Y E C w) (cs:Array Value) (ty:TypeId) :
  let E':Env:={ E with M:=fun b o=>if b = w.heap.size then cs[o]? else E.M b o }
  let w':World:={ w with heap:=w.heap.push (.cells cs ty) }
  Rel Y E' C w'/\Go1 E w E' w':=by
 intro E' w';obtain ⟨R,G⟩:=zC4 hR (.cells cs ty);have hlt:∀ b o v,E.M b o = some v->b < w.heap.size:=fun b o v h=>by
  have hm:=hR.mem _ _ _ h;unfold World.cell? at hm;rcases Nat.lt_or_ge b w.heap.size with h | h
  ·exact h
  ·simp [Array.getElem?_eq_none h] at hm
 have hle:E.le E':=⟨fun _ _ _ h=>h,fun _ _ h=>h,fun b o v h=>by
  show (if b = w.heap.size then cs[o]? else E.M b o) = some v;rw [if_neg (by have:=hlt b o v h;omega)];exact h⟩
 refine ⟨⟨R.hdC,R.mpC,?_,?_,R.inj,R.injm,R.hdm,R.bound,?_,?_,R.nodummy⟩,⟨hle,G.os,G.tape,G.output,G.size,G.frame,G.fresh⟩⟩
 ·intro k fr rows h;obtain ⟨sz,base,cap,h1,h2,h3,h4,h5,h6⟩:=R.cells k fr rows h;refine ⟨sz,base,cap,h1,h2,h3,h4,h5,fun B hB=>?_⟩;obtain ⟨cs1,ty1,g1,g2,g3,g4⟩:=h6 B hB;refine ⟨cs1,ty1,g1,g2,fun i j r c hi hj=>?_,fun o v hv=>?_⟩
  ·obtain ⟨v,hv,hr⟩:=g3 i j r c hi hj;exact ⟨v,hv,hr.mono hle⟩
  ·replace hv:(if B = w.heap.size then cs[o]? else E.M B o) = some v:=hv
   rw [if_neg (by subst hB;have:=hR.bound _ _ _ _ _ h1;omega)] at hv;exact g4 o v hv
 ·intro k es h;obtain ⟨r,en,cl,h1,h2,h3,h4⟩:=R.maps k es h;exact ⟨r,en,cl,h1,h2,h3,fun i e m he hm=>⟨((h4 i e m he hm).1).mono hle,((h4 i e m he hm).2).mono hle⟩⟩
 ·intro b o v h
  replace h:(if b = w.heap.size then cs[o]? else E.M b o) = some v:=h
  split at h
  ·rename_i hb;subst hb;simp [World.cell?,w',h]
  ·exact R.mem b o v h
 ·intro g row hg;obtain ⟨h1,f,h2⟩:=R.glob g row hg;exact ⟨h1,f,fun j c hj=>⟨hle.M _ _ _ (h2 j c hj).1,((h2 j c hj).2).mono hle⟩⟩

def AgreeFor (C:Nat->Option Ob) (S:St) (o:Oper) (T:Tm) (slot:Option Nat) (S':St):Prop :=
 (∀ k,yV C S k)\/(∃ s,slot = some s/\isE o = false/\(∀ k ∈ reads o T,yV C S k)/\Zt o T s S S'/\(∃ N,∀ k,N<=k->C k = none)/\S[s]? = some .dummy)

theorem AgreeFor.at {S S':St} {o:Oper} {T:Tm} {slot:Option Nat} (h:AgreeFor C S o T slot S'):∀ k ∈ reads o T,yV C S k :=
 h.elim (fun h k _=>h k) (fun ⟨_,_,_,h,_⟩=>h)

theorem UY {E:Env} {z:Value} (hok:z.cells.toList.all vW = true) (n:Nat) :
  CellsRel E (List.replicate n (z.cells.toList.map xM)).flatten ((Array.range (n * z.cells.size)).map (fun i=>z.cells[i % z.cells.size]!)):=by
 have hz:∀ r ∈ List.replicate n (z.cells.toList.map xM),r.length = z.cells.size:=fun r hr=>by rw [List.eq_of_mem_replicate hr];simp
 refine ⟨by rw [ZQ hz];simp,fun j c v h1 h2=>?_⟩;have hj:j < n * z.cells.size:=by
  have:=(List.getElem?_eq_some_iff.1 h1).1;rw [ZQ hz] at this;simpa using this
 have hzp:0 < z.cells.size:=by
  rcases Nat.eq_zero_or_pos z.cells.size with h | h
  ·rw [h] at hj;omega
  ·exact h
 have hmod:j % z.cells.size < z.cells.size:=Nat.mod_lt _ hzp;have hdiv:j / z.cells.size < n:=by rw [Nat.div_lt_iff_lt_mul hzp];exact hj
 have hg:=XT hz (j / z.cells.size) (j % z.cells.size) (z.cells.toList.map xM) (xM z.cells[j % z.cells.size]) (by simp [List.getElem?_replicate,hdiv]) (by simp [hmod]);rw [Nat.mul_comm,Nat.div_add_mod] at hg;rw [hg] at h1;cases h1;simp only [Array.getElem?_map,Array.getElem?_range,hj,if_true,Option.map_some,Option.some.injEq] at h2;subst h2;have hb:z.cells[j % z.cells.size]! = z.cells[j % z.cells.size]:=getElem!_pos z.cells _ hmod;rw [hb];exact ZE (List.all_eq_true.1 hok _ (by simp))

theorem Q8 (hY:SysOk Y P) (hR:Rel Y E C w) {S S1:St} {slot:Option Nat} {T:Tm} {t el len:Nat} {ti te:TI} (ht:Y.tab t = some ti) (hsh:ti.sh = .slice el) (hte:Y.tab el = some te)
  {parts:Array (Nat × Operand)} {o:Oper} (ho:o.op = .buildSlice t len parts) (ρ:Operand->Value) (hA:AgreeFor C S o T slot S1) (hx:∀ p ∈ parts.toList,VRel E (ev T p.2) (ρ p.2))
  {rows rows':List (List HV)} (hlen:len≠0) (hlim:len * te.size<=16777216) (hf:XC te.size (parts.toList.map fun (i,x)=>(i,ev T x)) (List.replicate len te.zero) = some rows)
  (hm:mapMS (mapMS (frzC 0 6)) rows S = some (rows',S1)) (hp:rows'.all (fun r=>r.all zT) = true):Sim P Y E C w S S1 slot o ρ (.lst rows'):=by
 have hT:=hY.tab _ _ ht;have hu:=hT.sh;rw [hsh] at hu;have hE:=hY.tab _ _ hte;obtain ⟨z,hz,hok,hzero,hsz⟩:=hE.run_zero w;have hse:=hE.run_size w;have hzl:=hE.zlen;obtain ⟨_,_,_,_,_,_,_,_,_,hpos⟩:=hE.info;have hr0:∀ r ∈ List.replicate len te.zero,r.length = te.size:=fun r hr=>by rw [List.eq_of_mem_replicate hr];exact hzl
 obtain ⟨hfC,hrz,hrl⟩:=QP (Y:=Y) (el:=el) (n:=0) (by simp [yj,hte]) _ _ _ hr0 hf;have hprt:=Vx (E:=E) (T:=T) (ρ:=ρ) hx;have hzr:=UY (E:=E) hok len;rw [<- hzero] at hzr;obtain ⟨cells',hfill,hcr⟩:=Wl (Y:=Y) (E:=E) (sh:=.arr 0 el) (pl:=fun i=>some (i * te.size,te.size)) (fun i p hpi=>by
  simp only [place,yj,hte,Option.map_some,Option.some.injEq] at hpi;rw [<- hpi]) hprt.1 hprt.2 hzr hfC
 have hcsz:cells'.size = len * te.size:=by rw [<- hcr.1,ZQ hrz,hrl];simp
 -- the rows' values
 let vss:List (List Value):=(List.range rows.length).map fun i=>(List.range te.size).map fun j=>(cells'[i * te.size + j]?).getD undef
 have hv:Zl (Zl VRel) E rows vss:=by
  refine ⟨by simp [vss],fun i r vs hi hvs=>?_⟩;have hi':i < rows.length:=(List.getElem?_eq_some_iff.1 hi).1;simp only [vss,List.getElem?_map,List.getElem?_range hi',Option.map_some,Option.some.injEq] at hvs;subst hvs;have hrs:=hrz r (List.mem_of_getElem? hi);refine ⟨by simp [hrs],fun j c v hj hvj=>?_⟩;have hj':j < te.size:=by rw [<- hrs];exact (List.getElem?_eq_some_iff.1 hj).1
  simp only [List.getElem?_map,List.getElem?_range hj',Option.map_some,Option.some.injEq] at hvj;have hg:=XT hrz i j r c hi hj;have hlt:i * te.size + j < cells'.size:=by rw [<- hcr.1];exact (List.getElem?_eq_some_iff.1 hg).1
  have:=hcr.2 _ c cells'[i * te.size + j] hg (by simp [hlt]);rw [Array.getElem?_eq_getElem hlt] at hvj;simp at hvj;subst hvj;exact this
 have hstep:FStep Y w (Zl (Zl VRel)) (mapMS (mapMS (frzC 0 6))) :=
  FStep.list (fun E E' x v h hx=>⟨hx.1,fun i a b ha hb=>(hx.2 i a b ha hb).mono h⟩) (FStep.list (fun E E' x v h hx=>hx.mono h) (XU 0 6))
 have hfrz:∃ E1,Zl (Zl VRel) E1 rows' vss/\Rel Y E1 (updC C S S1) w/\Go1 E w E1 w/\Kept3 C S S1 slot:=by
  rcases hA with hA | ⟨s,_,hE',_,hq,⟨N,hN⟩,_⟩
  ·obtain ⟨E1,h1,h2,h3,_,h4⟩:=hstep _ _ _ _ E C vss hm hR hA hv;exact ⟨E1,h1,h2,h3,Kept3.flag h4⟩
  ·have hq2:=(hq hE').2.2;rw [ho] at hq2;simp only at hq2
   -- the cells are plain: the state is not looked at
   have hcells:∀ r ∈ rows,∀ c ∈ r,zT c = true\/c = .nils:=by
    have key:∀ (ps:List (Nat × HV)) (rows rows':List (List HV)),(∀ p ∈ ps,∀ c ∈ p.2.cells,zT c = true\/c = .nils)->(∀ r ∈ rows,∀ c ∈ r,zT c = true\/c = .nils)->XC te.size ps rows = some rows'->∀ r ∈ rows',∀ c ∈ r,zT c = true\/c = .nils:=by
     intro ps
     induction ps with
     | nil=>intro rows rows' _ h hf;simp only [XC,Option.some.injEq] at hf;subst hf;exact h
     | cons p ps ih =>
      intro rows rows' hps h hf;obtain ⟨i,v⟩:=p;simp only [XC] at hf
      split at hf
      ·refine ih _ _ (fun p hp=>hps p (by simp [hp])) (fun r hr=>?_) hf;rcases List.mem_or_eq_of_mem_set hr with h1 | h1
       ·exact h r h1
       ·rw [h1];exact hps (i,v) (by simp)
      ·cases hf
    refine key _ _ _ (fun p hp=>?_) (fun r hr=>?_) hf
    ·simp only [List.mem_map] at hp;obtain ⟨⟨i,x⟩,h1,h2⟩:=hp;subst h2;exact hq2 (i,x) h1
    ·rw [List.eq_of_mem_replicate hr,hzero];intro c hc;simp only [List.mem_map] at hc;obtain ⟨v,hv,rfl⟩:=hc;have:=List.all_eq_true.1 hok v hv;unfold vW at this
     split at this <;> simp [xM,zT] at this ⊢
   obtain ⟨rows2,h2⟩:=YM (f:=mapMS (frzC 0 6)) (xs:=rows) (fun r hr=>YM (f:=frzC 0 6) (xs:=r) fun c hc=>QU (hcells r hr c hc));have h3:=h2 S;rw [hm] at h3;simp only [Option.some.injEq,Prod.mk.injEq] at h3;obtain ⟨rfl,rfl⟩:=h3;obtain ⟨E1,h4,h5,h6,_⟩:=hstep _ _ _ _ E C vss (h2 (WR C N)) hR (VA hN) hv;rw [yI] at h5 ⊢;exact ⟨E1,h4,h5,h6,Kept3.same _ _ _⟩
 obtain ⟨E1,r1,R1,G1,K1⟩:=hfrz;obtain ⟨R2,G2⟩:=zEM R1 cells' el;have hrl':rows'.length = len:=by rw [Yj hm,hrl];simp
 have hrz':∀ r ∈ rows',r.length = te.size:=by
  intro r hr;obtain ⟨i,hi⟩:=List.getElem?_of_mem hr;obtain ⟨x,a,b,hx1,hx2⟩:=zBD hm i r hi;rw [Yj hx2];exact hrz x (List.mem_of_getElem? hx1)
 refine ⟨.slice (some ⟨w.heap.size,0,none⟩) len len,_,_,.inl ?_,?_,R2,G1.trans G2,K1⟩
 ·unfold execOp;have hne:len * te.size≠0:=Nat.mul_ne_zero hlen (by omega);rw [hsz] at hfill;simp only [ho,Instr.buildSlice,Sem.run_bind,run_underlying hu,Result.andThen_ok,hse,Sem.run_ite];rw [if_neg (by omega),if_neg hne];simp only [Sem.run_bind,hz,Result.andThen_ok,Sem.run_pure,hsz,hfill,newRow,run_newObj]
 ·have hvv:∀ (i j:Nat) (r:List HV) (c:HV),rows'[i]? = some r->r[j]? = some c->i * te.size + j < cells'.size/\VRel E1 c ((cells'[i * te.size + j]?).getD undef):=by
   intro i j r c hi hj;have hi':i < rows.length:=by rw [<- Yj hm];exact (List.getElem?_eq_some_iff.1 hi).1
   have hj':j < te.size:=by
    have:=(List.getElem?_eq_some_iff.1 hj).1;rw [hrz' r (List.mem_of_getElem? hi)] at this;exact this
   have hvs:vss[i]? = some ((List.range te.size).map fun j=>(cells'[i * te.size + j]?).getD undef):=by
    simp only [vss,List.getElem?_map,List.getElem?_range hi',Option.map_some]
   have h8:=(r1.2 i r _ hi hvs).2 j c ((cells'[i * te.size + j]?).getD undef) hj (by simp only [List.getElem?_map,List.getElem?_range hj',Option.map_some]);refine ⟨?_,h8⟩;have h9:i < len:=by rw [hrl] at hi';simpa using hi'
   have:i * te.size + te.size<=len * te.size:=by rw [<- Nat.succ_mul];exact Nat.mul_le_mul_right _ h9
   omega
  have hnn:rows'≠[]:=fun h=>by rw [h] at hrl';exact hlen hrl'.symm
  have:=VRel.lst (E:={ E1 with M:=fun b o=>if b = w.heap.size then cells'[o]? else E1.M b o }) rows' w.heap.size 0 rows'.length te.size hnn (Nat.le_refl _) hrz'
   (fun r hr c hc=>List.all_eq_true.1 (List.all_eq_true.1 hp r hr) c hc) (fun i j=>(cells'[i * te.size + j]?).getD undef)
   (fun i j r c hi hj=>by
    have h1:=(hvv i j r c hi hj).1;simp [h1])
   (fun i j r c hi hj=>((hvv i j r c hi hj).2).mono G2.le)
  rw [hrl'] at this;exact this

theorem Q9 (hY:SysOk Y P) (hR:Rel Y E C w) {S:St} {t el:Nat} {ti te:TI} (ht:Y.tab t = some ti) (hsh:ti.sh = .slice el) (hte:Y.tab el = some te)
  {parts:Array (Nat × Operand)} (hpe:parts.isEmpty = true) {o:Oper} (ho:o.op = .buildSlice t 0 parts) (ρ:Operand->Value) (pl:Option Nat):Sim P Y E C w S S pl o ρ .nils:=by
 have hu:=(hY.tab _ _ ht).sh;rw [hsh] at hu;have hse:=(hY.tab _ _ hte).run_size w;have hp:parts = #[]:=by simpa using hpe
 obtain ⟨R1,G1⟩:=zC4 hR (.cells #[] el);refine ⟨.slice (some ⟨w.heap.size,0,none⟩) 0 0,_,E,.inl ?_,.nils _,by rw [yI];exact R1,G1,Kept3.same _ _ _⟩;unfold execOp;have h0:∀ f:Nat->Value,Array.map f (Array.range 0) = #[]:=fun f=>by apply Array.ext <;> simp
 simp [ho,Instr.buildSlice,run_underlying hu,hse,hp,Instr.fill,newRow,h0]

theorem zBx (hY:SysOk Y P) (hR:Rel Y E C w) {S:St} (hN:∀ k,S.length<=k->C k = none) (fr:Bool) {t el:Nat} {ti te:TI} (ht:Y.tab t = some ti) (hsh:ti.sh = .slice el) (hte:Y.tab el = some te)
  {parts:Array (Nat × Operand)} (hpe:parts.isEmpty = true) {o:Oper} (ho:o.op = .buildSlice t 0 parts) (ρ:Operand->Value):Sim P Y E C w S (S++[.cells fr []]) none o ρ (.sl S.length 0):=by
 have hu:=(hY.tab _ _ ht).sh;rw [hsh] at hu;have hse:=(hY.tab _ _ hte).run_size w;have hp:parts = #[]:=by simpa using hpe
 obtain ⟨R1,G1⟩:=YX hR (hN S.length (Nat.le_refl _)) fr [] 0 #[] el (by simp) (by simp) (by simp);have hc:updC C S (S++[.cells fr []]) = vI C S.length (.cells fr []):=by
  have:=YN (C:=C) (S:=S) (pl:=none) hN (o:=.cells fr []) (by simp);simpa [newOb] using this
 refine ⟨.slice (some ⟨w.heap.size,0,none⟩) 0 0,_,_,.inl ?_,?_,by rw [hc];exact R1,G1,Kept3.ext fun k hk=>List.getElem?_append_left hk⟩
 ·unfold execOp;have h0:∀ f:Nat->Value,Array.map f (Array.range 0) = #[]:=fun f=>by apply Array.ext <;> simp
  simp [ho,Instr.buildSlice,run_underlying hu,hse,hp,Instr.fill,newRow,h0]
 ·exact .sl S.length 0 0 (some w.heap.size) 0 (by simp [xV]) (Nat.le_refl _)

theorem zBw (hY:SysOk Y P) (hR:Rel Y E C w) {S:St} {T:Tm} (hN:∀ k,S.length<=k->C k = none) (fr:Bool) {t el len:Nat} {ti te:TI} (ht:Y.tab t = some ti) (hsh:ti.sh = .slice el) (hte:Y.tab el = some te)
  {parts:Array (Nat × Operand)} {o:Oper} (ho:o.op = .buildSlice t len parts) (ρ:Operand->Value) (hx:∀ p ∈ parts.toList,VRel E (ev T p.2) (ρ p.2))
  {rows:List (List HV)} (hlen:len≠0) (hlim:len * te.size<=16777216) (hf:XC te.size (parts.toList.map fun (i,x)=>(i,ev T x)) (List.replicate len te.zero) = some rows):Sim P Y E C w S (S++[.cells fr rows]) none o ρ (.sl S.length len):=by
 have hT:=hY.tab _ _ ht;have hu:=hT.sh;rw [hsh] at hu;have hE:=hY.tab _ _ hte;obtain ⟨z,hz,hok,hzero,hsz⟩:=hE.run_zero w;have hse:=hE.run_size w;have hzl:=hE.zlen;obtain ⟨_,_,_,_,_,_,_,_,_,hpos⟩:=hE.info;have hr0:∀ r ∈ List.replicate len te.zero,r.length = te.size:=fun r hr=>by rw [List.eq_of_mem_replicate hr];exact hzl
 obtain ⟨hfC,hrz,hrl⟩:=QP (Y:=Y) (el:=el) (n:=0) (by simp [yj,hte]) _ _ _ hr0 hf;have hprt:=Vx (E:=E) (T:=T) (ρ:=ρ) hx;have hzr:=UY (E:=E) hok len;rw [<- hzero] at hzr;obtain ⟨cells',hfill,hcr⟩:=Wl (Y:=Y) (E:=E) (sh:=.arr 0 el) (pl:=fun i=>some (i * te.size,te.size)) (fun i p hpi=>by
  simp only [place,yj,hte,Option.map_some,Option.some.injEq] at hpi;rw [<- hpi]) hprt.1 hprt.2 hzr hfC
 have hcsz:cells'.size = len * te.size:=by rw [<- hcr.1,ZQ hrz,hrl];simp
 have hrl':rows.length = len:=by rw [hrl];simp
 obtain ⟨R1,G1⟩:=YX hR (hN S.length (Nat.le_refl _)) fr rows te.size cells' el hrz (by rw [hcsz,hrl']) (fun i j r c hi hj=>by
  have hg:=XT hrz i j r c hi hj;have hlt:i * te.size + j < cells'.size:=by rw [<- hcr.1];exact (List.getElem?_eq_some_iff.1 hg).1
  exact ⟨cells'[i * te.size + j],by simp [hlt],hcr.2 _ c cells'[i * te.size + j] hg (by simp [hlt])⟩)
 have hc:updC C S (S++[.cells fr rows]) = vI C S.length (.cells fr rows):=by
  have:=YN (C:=C) (S:=S) (pl:=none) hN (o:=.cells fr rows) (by simp);simpa [newOb] using this
 refine ⟨.slice (some ⟨w.heap.size,0,none⟩) len len,_,_,.inl ?_,?_,by rw [hc];exact R1,G1,Kept3.ext fun k hk=>List.getElem?_append_left hk⟩
 ·unfold execOp;have hne:len * te.size≠0:=Nat.mul_ne_zero hlen (by omega);rw [hsz] at hfill;simp only [ho,Instr.buildSlice,Sem.run_bind,run_underlying hu,Result.andThen_ok,hse,Sem.run_ite];rw [if_neg (by omega),if_neg hne];simp only [Sem.run_bind,hz,Result.andThen_ok,Sem.run_pure,hsz,hfill,newRow,run_newObj]
 ·rw [<- hrl'];exact .sl S.length rows.length te.size (some w.heap.size) rows.length (by simp [xV]) (Nat.le_refl _)

end
end Go.Proofs.XVai
end
section
namespace Go.Proofs.XVai
open Go

theorem zAH {α:Type} (l vs:List α) (o q:Nat) (h:o + vs.length<=l.length) :
  (l.take o++vs++l.drop (o + vs.length))[q]? = if q < o then l[q]? else if q < o + vs.length then vs[q - o]? else l[q]?:=by
 have h1:(l.take o).length = o:=by simp;omega
 by_cases hq:q < o
 ·rw [if_pos hq,List.append_assoc,List.getElem?_append_left (by omega),List.getElem?_take_of_lt hq]
 ·rw [if_neg hq]
  by_cases hq2:q < o + vs.length
  ·rw [if_pos hq2,List.getElem?_append_left (by simp;omega),List.getElem?_append_right (by omega),h1]
  ·rw [if_neg hq2,List.getElem?_append_right (by simp;omega),List.getElem?_drop];congr 1;simp;omega

theorem zBt (xs:List HV):∀ (row:List HV) (off j:Nat),off + xs.length<=row.length ->
  (setCells row off xs)[j]? = if off<=j/\j < off + xs.length then xs[j - off]? else row[j]?:=by
 induction xs with
 | nil=>intro row off j _;simp only [setCells];rw [if_neg (by simp only [List.length_nil];omega)]
 | cons x xs ih =>
  intro row off j h;simp only [setCells,List.length_cons] at h ⊢;rw [ih _ _ _ (by simp;omega)]
  by_cases h1:off + 1<=j/\j < off + 1 + xs.length
  ·rw [if_pos h1,if_pos (by omega),show j - off = (j - (off + 1)) + 1 by omega,List.getElem?_cons_succ]
  ·rw [if_neg h1]
   by_cases h2:off = j
   ·subst h2;rw [if_pos (by omega),List.getElem?_set_self (by omega),Nat.sub_self];rfl
   ·rw [if_neg (by omega),List.getElem?_set_ne h2]

theorem zBI (w:World) (g b:Nat) (cs:Array Value) (h:b≠g):(w.setRow g cs).heap[b]? = w.heap[b]?:=by
 unfold World.setRow;simp only [Array.getElem?_modify];rw [if_neg (Ne.symm h)]
theorem setRow_size (w:World) (g:Nat) (cs:Array Value):(w.setRow g cs).heap.size = w.heap.size:=by
 unfold World.setRow;simp

section
variable {P:Program} {Y:Sys} {E:Env} {C:Nat->Option Ob} {w:World}

theorem Qh {E:Env} {c:HV} {v:Value} (h:VRel E c v) (hc:zo c = true):v.oneCell' = true:=by
 cases h <;> first | rfl | (simp [zo] at hc)

theorem zE8 (hY:SysOk Y P) (hR:Rel Y E C w) {S S1:St} {pl:Option Nat} {t:Nat} {x v:Operand} {o:Oper} (ho:o.op = .store t x v) (ρ:Operand->Value) {cx cv:HV} (hA:∀ k,yV C S k)
  (hx:VRel E cx (ρ x)) (hv:VRel E cv (ρ v)) (hs:XO Y S t cx cv = some S1):Sim P Y E C w S S1 pl o ρ (.tup []):=by
 generalize hu:ρ x = ux at hx;cases hx with
 | ptr k n i off sz B cap hd =>
  simp only [XO,yj] at hs;cases ht:Y.tab t with
  | none=>simp [ht] at hs
  | some ti =>
   simp only [ht,Option.map_some] at hs
   split at hs
   ·rename_i z rows hz hS;simp only [Option.some.injEq] at hz;subst hz
    split at hs
    ·rename_i row hrow
     split at hs
     ·rename_i hc;obtain ⟨hn,hvl,hoff,hcell⟩:=hc;simp only [Option.some.injEq] at hs;subst hs;subst hn;obtain ⟨fr0,rows0,hC0,_⟩:=hR.hdC _ _ _ hd;have hC:C k = some (.cells false rows):=by
       rcases hA k _ hC0 with h1 | h1 <;> rw [hS] at h1 <;> cases h1;exact hC0
      obtain ⟨sz',base',cap',h1,h2,h3,h4,h5,h6⟩:=hR.cells _ _ _ hC;rw [hd] at h1;simp only [Option.some.injEq,Prod.mk.injEq] at h1;obtain ⟨rfl,rfl,rfl⟩:=h1;obtain ⟨cs,ty,g1,g2,g3,g4⟩:=h6 B rfl;have hcv:=QL hv;have hi:i < rows.length:=(List.getElem?_eq_some_iff.1 hrow).1;have hrl:row.length = sz:=h3 row (List.mem_of_getElem? hrow);have hbnd:i * sz + sz<=cs.size:=by
       rw [g2,<- Nat.succ_mul];exact Nat.mul_le_mul_right _ (by omega)
      have hvs:(ρ v).cells.toList.length = ti.size:=by simp [<- hcv.1,hvl]
      have hfit:i * sz + off + (ρ v).cells.toList.length<=cs.toList.length:=by rw [hvs];simp;omega
      have hst:=run_storeCells_at P B (i * sz + off) ty (ρ v).cells.toList 0 cs w g1 (by simpa using hfit) (fun u hu=>by
       obtain ⟨j,hj⟩:=List.getElem?_of_mem hu;have hj':j < cv.cells.length:=by rw [hcv.1];have:=(List.getElem?_eq_some_iff.1 hj).1;simpa using this
       exact Qh (hcv.2 j cv.cells[j] u (by simp [hj']) (by simpa using hj)) (List.all_eq_true.1 hcell _ (by simp)))
      simp only [Nat.add_zero] at hst
      let cs':Array Value:=(cs.toList.take (i * sz + off)++(ρ v).cells.toList++cs.toList.drop (i * sz + off + (ρ v).cells.toList.length)).toArray
      have hget:∀ q,cs'[q]? = if q < i * sz + off then cs[q]? else if q < i * sz + off + ti.size then (ρ v).cells[q - (i * sz + off)]? else cs[q]?:=by
       intro q;have:=zAH cs.toList (ρ v).cells.toList (i * sz + off) q hfit;simp only [hvs,Array.getElem?_toList] at this;simp only [cs',List.getElem?_toArray,hvs];exact this
      have hsz':cs'.size = cs.size:=by
       simp only [cs',List.size_toArray,List.length_append,List.length_take,List.length_drop];simp at hfit ⊢;omega
      have hput:=hR.putCells (w':=w.setRow B cs') k false (rows.set i (setCells row off cv.cells)) sz (some B) cap (.inr ⟨_,_,hC,by simp,fun _=>hd⟩) rfl rfl rfl
       (by rw [setRow_size];exact Nat.le_refl _) (fun b hb hne=>zBI w B b cs' (fun e=>hne (by rw [e])))
       (fun B' hB'=>by cases hB';exact ⟨.inr ⟨_,_,_,hd⟩,by rw [setRow_size];exact hR.bound _ _ _ _ _ hd⟩) (by simpa using h2)
       (fun r hr=>(List.mem_or_eq_of_mem_set hr).elim (h3 r) (fun e=>by rw [e,Uv];exact hrl)) (fun h=>h4 (by simpa using h)) (fun h=>by cases h)
       (fun B' hB'=>by
        cases hB';refine ⟨cs',ty,setRow_heap w B cs cs' ty _ g1,by rw [hsz',g2],fun i' j r c hi' hj=>?_,fun q u hu=>by
         have:=g4 q u hu;cases this.1⟩
        have hle:E.le (xV E k (rows.set i (setCells row off cv.cells)).length (sz,some B,cap)):=by
         refine ⟨fun k1 n1 h1 hh=>?_,fun _ _ h=>h,fun _ _ _ h=>h⟩;simp only [xV]
         split
         ·rename_i he;rw [he.1,he.2,List.length_set,hd] at hh;rw [hh]
         ·exact hh
        by_cases hii:i = i'
        ·subst hii;rw [List.getElem?_set_self hi] at hi';cases hi';rw [zBt _ _ _ _ (by omega)] at hj;rw [hget]
         split at hj
         ·rename_i hjj;have hj1:j - off < (ρ v).cells.size:=by rw [<- hcv.1];omega
          rw [if_neg (by omega),if_pos (by omega),show i * sz + j - (i * sz + off) = j - off by omega];exact ⟨(ρ v).cells[j - off],by simp [hj1],(hcv.2 _ _ _ hj (by simp [hj1])).mono hle⟩
         ·rename_i hjj;obtain ⟨u,hu,hr⟩:=g3 i j row c hrow hj;refine ⟨u,?_,hr.mono hle⟩
          split
          ·exact hu
          ·rw [if_neg (by omega)];exact hu
        ·rw [List.getElem?_set_ne hii] at hi';obtain ⟨u,hu,hr⟩:=g3 i' j r c hi' hj;have hj':j < sz:=by
          have:=(List.getElem?_eq_some_iff.1 hj).1;rw [h3 r (List.mem_of_getElem? hi')] at this;exact this
         refine ⟨u,?_,hr.mono hle⟩;rw [hget];rcases Nat.lt_or_ge i' i with hlt | hge
         ·have:i' * sz + sz<=i * sz:=by rw [<- Nat.succ_mul];exact Nat.mul_le_mul_right _ hlt
          rw [if_pos (by omega)];exact hu
         ·have:i * sz + sz<=i' * sz:=by rw [<- Nat.succ_mul];exact Nat.mul_le_mul_right _ (by omega)
          rw [if_neg (by omega),if_neg (by omega)];exact hu)
      refine ⟨undef,w.setRow B cs',_,.inr ⟨?_,rfl⟩,.tup [] #[] rfl (by simp),by rw [uK hS (.inl hC)];exact hput.1,hput.2,Kept3.set _ hC hS⟩;unfold execOp;have hsize:=(hY.tab _ _ ht).run_size w;simp only [ho,hu,Instr.storeAt,Instr.sureAddr,Sem.run_bind,Sem.run_pure,Result.andThen_ok,storeVar,hsize,Sem.run_ite];rw [if_neg (by simp [<- hcv.1,hvl])];rw [hst];rfl
     ·cases hs
    ·cases hs
   ·cases hs
 | _=>simp [XO] at hs

theorem zAl (hY:SysOk Y P) (hR:Rel Y E C w) {S:St} {pl:Option Nat} {t f:Nat} {x:Operand} {o:Oper} (ho:o.op = .fieldAddr t x f) (ρ:Operand->Value) {cx c:HV}
  (hx:VRel E cx (ρ x)) (hc:WH Y t cx f = some c):Sim P Y E C w S S pl o ρ c:=by
 unfold WH at hc
 split at hc
 ·rename_i ti ht;have hsh:=(hY.tab _ _ ht).sh
  split at hc
  ·rename_i fs hs;rw [hs] at hsh;obtain ⟨fields,hu,hfl,hff⟩:=hsh
   split at hc
   ·rename_i ft off z hf
    split at hc
    ·cases hc
    ·rename_i hz;have hi:f < fields.size:=by rw [hfl];exact (List.getElem?_eq_some_iff.1 hf).1
     obtain ⟨j,h3,h4⟩:=hff f fields[f] (by simp [hi]);rw [hf] at h4;simp only [Option.some.injEq,Prod.mk.injEq] at h4;obtain ⟨h5,h6,h7⟩:=h4;have hsz:∀ w,(sizeOf fields[f].type).run P w = .ok j.size w:=fun w=>by simp [sizeOf,typeInfo,h3]
     have hrun:∀ (a:Addr),ρ x = .pointer (some a)->a.spot = none->(execOp ρ o).run P w = .ok (.value (.pointer (some ⟨a.block,a.off + off,none⟩))) w:=by
      intro a ha hsp;obtain ⟨b,q,s⟩:=a;simp only at hsp;subst hsp;unfold execOp;simp only [ho,ha,Instr.fieldAt,Sem.run_bind,run_underlying hu,Result.andThen_ok,Instr.sureAddr,Sem.run_pure,fieldPlace];simp [hi,hsz,<- h7,hz,addr_add,<- h6]
     generalize hv:ρ x = v at hx;cases hx with
     | ptr k n i q sz B cap hd =>
      simp only [Option.some.injEq] at hc;subst hc;exact Sim.same hR (hrun _ hv rfl) (by
       have:=VRel.ptr (E:=E) k n i (q + off) sz B cap hd;simpa [Nat.add_assoc] using this)
     | iptr rows i q b r0 sz hz' hp g hM hV =>
      simp only [Option.some.injEq] at hc;subst hc;exact Sim.same hR (hrun _ hv rfl) (by
       have:=VRel.iptr (E:=E) rows i (q + off) b r0 sz hz' hp g hM hV;simpa [Nat.add_assoc] using this)
     | _=>simp at hc
   ·cases hc
  ·cases hc
 ·cases hc

theorem uu {n:Int} {j:Nat} (h:Z8 n = some j):0<=n/\n.toNat = j:=by
 unfold Z8 at h
 split at h
 ·rename_i h1;exact ⟨h1,by simpa using h⟩
 ·cases h

theorem zAm (hY:SysOk Y P) (hR:Rel Y E C w) {S:St} {pl:Option Nat} {t:Nat} {x i:Operand} {o:Oper} (ho:o.op = .indexAddr t x i) (ρ:Operand->Value) {cx ci c:HV} (hA:∀ k ∈ zDg cx,yV C S k)
  (hx:VRel E cx (ρ x)) (hi:VRel E ci (ρ i)) (hc:uM Y S t cx ci = some c):Sim P Y E C w S S pl o ρ c:=by
 unfold uM at hc
 split at hc
 ·rename_i kk n;generalize hiv:ρ i = iv at hi;cases hi
  split at hc
  ·rename_i ti ht;have hsh:=(hY.tab _ _ ht).sh;generalize hxv:ρ x = xv at hx
   split at hc
   ·-- an immutable slice
    rename_i e rows hs;rw [hs] at hsh
    split at hc
    ·rename_i j hj
     split at hc
     ·rename_i hcc;simp only [Option.some.injEq] at hc;subst hc;obtain ⟨h0,hjj⟩:=uu hj;cases hx with
      | lst0 b cap=>simp at hcc
      | lst rows b q cap sz hn hcap hz hp f hM hV =>
       have hlt:=hcc.1;have hsz:yj Y e = some sz:=by
        have:=hcc.2;rw [List.getElem?_eq_getElem hlt] at this;rw [<- this,Option.map_some,hz _ (by simp)]
       simp only [yj,Option.map_eq_some_iff] at hsz;obtain ⟨te,hte,hsz⟩:=hsz;have hse:=(hY.tab _ _ hte).run_size w;refine Sim.same hR (v:=.pointer (some ⟨b,q + j * sz + 0,none⟩)) ?_ (.iptr rows j 0 b q sz hz hp f hM hV);unfold execOp;simp only [ho,hxv,hiv,Instr.indexAt,asIntOf,Sem.run_bind,Sem.run_pure,Result.andThen_ok,run_underlying hsh];have h2:n < (rows.length:Int):=by omega
       simp [h0,h2,hse,addr_add,hsz,hjj]
     ·cases hc
    ·cases hc
   ·-- a row of one's own
    rename_i e k m hs;rw [hs] at hsh
    split at hc
    ·rename_i j fr rows hj hS
     split at hc
     ·rename_i hcc;simp only [Option.some.injEq] at hc;subst hc;obtain ⟨h0,hjj⟩:=uu hj;obtain ⟨hm,hjm,hrow⟩:=hcc;subst hm;cases hx with
      | sl k n sz base cap hd hcap =>
       obtain ⟨fr0,rows0,hC0,_⟩:=hR.hdC _ _ _ hd;have hC:C k = some (.cells fr rows):=by
        rcases hA k (by simp [zDg]) _ hC0 with h1 | h1 <;> rw [hS] at h1 <;> cases h1;exact hC0
       obtain ⟨sz',base',cap',h1,h2,h3,h4,h5,h6⟩:=hR.cells _ _ _ hC;rw [hd] at h1;simp only [Option.some.injEq,Prod.mk.injEq] at h1;obtain ⟨rfl,rfl,rfl⟩:=h1;have hne:base≠none:=fun h=>by have:=h5 h;omega
       obtain ⟨B,rfl⟩:=Option.ne_none_iff_exists'.1 hne;have hsz:yj Y e = some sz:=by
        rw [List.getElem?_eq_getElem hjm] at hrow;rw [<- hrow,Option.map_some,h3 _ (by simp)]
       simp only [yj,Option.map_eq_some_iff] at hsz;obtain ⟨te,hte,hsz⟩:=hsz;have hse:=(hY.tab _ _ hte).run_size w;refine Sim.same hR (v:=.pointer (some ⟨B,j * sz + 0,none⟩)) ?_ (.ptr k rows.length j 0 sz B cap hd);unfold execOp;simp only [ho,hxv,hiv,Instr.indexAt,asIntOf,Sem.run_bind,Sem.run_pure,Result.andThen_ok,run_underlying hsh];have h8:n < (rows.length:Int):=by omega
       simp [h0,h8,hse,addr_add,hsz,hjj]
     ·cases hc
    ·cases hc
   ·-- an array of one's own
    rename_i len e k m r q hs;rw [hs] at hsh
    split at hc
    ·rename_i j z hj hz
     split at hc
     ·rename_i hcc;simp only [Option.some.injEq] at hc;subst hc;obtain ⟨h0,hjj⟩:=uu hj;simp only [yj,Option.map_eq_some_iff] at hz;obtain ⟨te,hte,hz⟩:=hz;have hse:=(hY.tab _ _ hte).run_size w;cases hx with
      | ptr k n' i' o' sz B cap hd =>
       refine Sim.same hR (v:=.pointer (some ⟨B,r * sz + (q + j * z),none⟩)) ?_ (.ptr k m r (q + j * z) sz B cap hd);unfold execOp;simp only [ho,hxv,hiv,Instr.indexAt,asIntOf,Sem.run_bind,Sem.run_pure,Result.andThen_ok,run_underlying hsh,Instr.sureAddr];have h8:n < (len:Int):=by omega
       simp [h0,h8,hse,addr_add,hz,hjj,Nat.add_assoc]
     ·cases hc
    ·cases hc
   ·rename_i len e rows r q hs;rw [hs] at hsh
    split at hc
    ·rename_i j z hj hz
     split at hc
     ·rename_i hcc;simp only [Option.some.injEq] at hc;subst hc;obtain ⟨h0,hjj⟩:=uu hj;simp only [yj,Option.map_eq_some_iff] at hz;obtain ⟨te,hte,hz⟩:=hz;have hse:=(hY.tab _ _ hte).run_size w;cases hx with
      | iptr rows i' o' b r0 sz hz' hp g hM hV =>
       refine Sim.same hR (v:=.pointer (some ⟨b,r0 + r * sz + (q + j * z),none⟩)) ?_ (.iptr rows r (q + j * z) b r0 sz hz' hp g hM hV);unfold execOp;simp only [ho,hxv,hiv,Instr.indexAt,asIntOf,Sem.run_bind,Sem.run_pure,Result.andThen_ok,run_underlying hsh,Instr.sureAddr];have h8:n < (len:Int):=by omega
       simp [h0,h8,hse,addr_add,hz,hjj,Nat.add_assoc]
     ·cases hc
    ·cases hc
   ·cases hc
  ·cases hc
 ·cases hc

end
end Go.Proofs.XVai
end
section
namespace Go.Proofs.XVai
open Go

section
variable {P:Program} {Y:Sys} {E:Env} {C:Nat->Option Ob} {w:World}

theorem zAy {d:Nat} {x:Option HV} {n:Nat} (h:bound d x = some n):(x = none/\n = d)\/∃ k m,x = some (.int k m)/\0<=m/\m.toNat = n:=by
 unfold bound at h
 split at h
 ·exact .inl ⟨rfl,by simpa using h.symm⟩
 ·split at h
  ·rename_i k m h0;exact .inr ⟨k,m,rfl,h0,by simpa using h⟩
  ·cases h
 ·cases h

theorem Zg {isS:Bool} {len cap l h:Nat} {lo hi:Option Operand} {T:Tm} {ρ:Operand->Value} (hlo:∀ x ∈ lo,VRel E (ev T x) (ρ x)) (hhi:∀ x ∈ hi,VRel E (ev T x) (ρ x))
  (h1:bound 0 (lo.map (ev T)) = some l) (h2:bound len (hi.map (ev T)) = some h) (hlh:l<=h) (hc:h<=cap) :
  (Instr.sliceBounds isS len cap (lo.map ρ) (hi.map ρ) none).run P w = .ok (l,h,cap) w:=by
 have hH:∀ code:BoundsCode,hi = none/\h = len\/∃ x,hi = some x/\(Instr.sliceBound (ρ x) cap code).run P w = .ok h w:=by
  intro code;rcases zAy h2 with ⟨a,b⟩ | ⟨k,m,a,b,c⟩
  ·left;cases hi with
   | none=>exact ⟨rfl,b⟩
   | some x=>simp at a
  ·right;cases hi with
   | none=>simp at a
   | some x =>
    simp only [Option.map_some,Option.some.injEq] at a;have hx:=hhi x (by simp);rw [a] at hx;refine ⟨x,rfl,?_⟩;generalize hv:ρ x = v at hx;cases hx;simp only [Instr.sliceBound,asIntOf,Sem.run_bind,Sem.run_pure,Result.andThen_ok,Sem.run_ite];rw [if_pos ⟨b,by omega⟩,c]
 have hL:∀ code:BoundsCode,lo = none/\l = 0\/∃ x,lo = some x/\(Instr.sliceBound (ρ x) h code).run P w = .ok l w:=by
  intro code;rcases zAy h1 with ⟨a,b⟩ | ⟨k,m,a,b,c⟩
  ·left;cases lo with
   | none=>exact ⟨rfl,b⟩
   | some x=>simp at a
  ·right;cases lo with
   | none=>simp at a
   | some x =>
    simp only [Option.map_some,Option.some.injEq] at a;have hx:=hlo x (by simp);rw [a] at hx;refine ⟨x,rfl,?_⟩;generalize hv:ρ x = v at hx;cases hx;simp only [Instr.sliceBound,asIntOf,Sem.run_bind,Sem.run_pure,Result.andThen_ok,Sem.run_ite];rw [if_pos ⟨b,by omega⟩,c]
 unfold Instr.sliceBounds;rcases hH (if isS then .sliceAcap else .sliceAlen) with ⟨rfl,rfl⟩ | ⟨x,rfl,hx⟩ <;> rcases hL .sliceB with ⟨rfl,rfl⟩ | ⟨y,rfl,hy⟩ <;>
  simp [Sem.run_bind, *]

theorem zE7 (hY:SysOk Y P) (hR:Rel Y E C w) {S S1:St} {slot:Option Nat} {T:Tm} {t:Nat} {x:Operand} {lo hi:Option Operand} {o:Oper} (ho:o.op = .slice t x lo hi none) (ρ:Operand->Value)
  (hA:AgreeFor C S o T slot S1) (hx:VRel E (ev T x) (ρ x)) (hlo:∀ x ∈ lo,VRel E (ev T x) (ρ x)) (hhi:∀ x ∈ hi,VRel E (ev T x) (ρ x)) {c:HV}
  (hc:YQ Y S t (ev T x) (lo.map (ev T)) (hi.map (ev T)) = some (c,S1)):Sim P Y E C w S S1 slot o ρ c:=by
 unfold YQ at hc
 split at hc
 ·cases hc
 ·rename_i ti ht;have hsh:=(hY.tab _ _ ht).sh
  split at hc
  ·rename_i hs;rw [hs] at hsh
   split at hc
   ·rename_i s hxs
    split at hc
    ·rename_i l h h1 h2
     split at hc
     ·rename_i hcc;simp only [Option.some.injEq,Prod.mk.injEq] at hc;obtain ⟨rfl,rfl⟩:=hc;rw [hxs] at hx;generalize hv:ρ x = v at hx;cases hx;refine Sim.same hR (v:=.string (s.extract l h)) ?_ (.str _);have hb:=Zg (P:=P) (w:=w) (isS:=false) (cap:=s.size) hlo hhi h1 h2 hcc.1 hcc.2;unfold execOp;simp only [ho,hv,Instr.sliceAt,Sem.run_bind,run_underlying hsh,Result.andThen_ok,Instr.slice,Option.map_none,hb];simp [hb]
     ·cases hc
    ·cases hc
   ·cases hc
  ·rename_i e hs;rw [hs] at hsh
   split at hc
   ·rename_i z rows S1' hz hfr
    split at hc
    ·rename_i l h h1 h2
     split at hc
     ·rename_i hcc;obtain ⟨hlh,hhr,hrz⟩:=hcc;simp only [Option.some.injEq,Prod.mk.injEq] at hc;obtain ⟨rfl,rfl⟩:=hc;have hF:∃ E1,VRel E1 (.lst rows) (ρ x)/\Rel Y E1 (updC C S S1') w/\Go1 E w E1 w/\Kept3 C S S1' slot:=by
       rcases hA with hA | ⟨s,_,hE',hrd,hq,⟨N,hN⟩,hsd⟩
       ·obtain ⟨E1,a,b,c,_,d⟩:=XU (Y:=Y) (w:=w) 0 6 _ _ _ _ E C _ hfr hR hA hx;exact ⟨E1,a,b,c,Kept3.flag d⟩
       ·have hq':=hq hE';rw [ho] at hq';simp only at hq';simp only [reads,ho] at hrd
        -- what is looked at is agreed on,and its rows are plain
        have key:frzC 0 6 (ev T x) (WR C N) = some (.lst rows,WR C N)/\S1' = S:=by
         have hx2:=hx;generalize hxe:ev T x = xe at hfr hx2 hrd hq' ⊢;generalize ρ x = vx at hx2;cases hx2 with
         | sl k n sz base cap hd hcap =>
          obtain ⟨fr0,rows0,hC0,_⟩:=hR.hdC _ _ _ hd;simp only [frzC] at hfr ⊢;rw [if_neg (by omega)] at hfr ⊢
          split at hfr
          ·rename_i fr rw1 hSk;have hkl:k < S.length:=(List.getElem?_eq_some_iff.1 hSk).1;have hC:C k = some (.cells fr rw1):=by
            rcases hrd k (by simp) _ hC0 with h1 | h1 <;> rw [hSk] at h1 <;> cases h1;exact hC0
           have hp:=hq'.2.2 k n fr rw1 rfl hSk;obtain ⟨rows2,hm⟩:=YM (f:=mapMS (frzC 0 5)) (xs:=rw1) (fun r hr=>YM (f:=frzC 0 5) (xs:=r) fun c hc=>QU (.inl (hp r hr c hc)));have hkN:k < N:=by
            rcases Nat.lt_or_ge k N with h | h
            ·exact h
            ·rw [hN k h] at hC;cases hC
           rw [zDq hkN hC];simp only
           split at hfr
           ·rename_i hlen;rw [if_pos hlen];rw [hm] at hfr ⊢;simp only at hfr ⊢
            split at hfr
            ·rename_i hpp;simp only [Option.some.injEq,Prod.mk.injEq] at hfr;obtain ⟨hfr1,hfr2⟩:=hfr;cases hfr1;rw [if_pos hpp];cases fr with
             | true =>
              simp only [if_true] at hfr2 ⊢;exact ⟨by simp,hfr2.symm⟩
             | false =>
              exfalso;simp only [Bool.false_eq_true,if_false] at hfr2;have hne:k≠s:=by
               rintro rfl;rw [hSk] at hsd;cases hsd
              have:=hq'.2.1 k hne;rw [<- hfr2,List.getElem?_set_self hkl,hSk] at this;cases this
            ·cases hfr
           ·cases hfr
          ·cases hfr
         | _ =>
          simp only [frzC,Option.some.injEq,Prod.mk.injEq] at hfr ⊢;exact ⟨by simp [hfr.1],hfr.2.symm⟩
        obtain ⟨E1,a,b,c,_⟩:=XU (Y:=Y) (w:=w) 0 6 _ _ _ _ E C _ key.1 hR (VA hN) hx;rw [key.2,yI];rw [yI] at b;exact ⟨E1,a,b,c,Kept3.same _ _ _⟩
      obtain ⟨E1,hx1,R1,G1,K1⟩:=hF;simp only [yj,Option.map_eq_some_iff] at hz;obtain ⟨te,hte,hz⟩:=hz;have hse:=(hY.tab _ _ hte).run_size w;generalize hv:ρ x = v at hx1;cases hx1 with
      | lst0 b cap =>
       have hh0:h = 0:=by simpa using hhr
       have hl0:l = 0:=by omega
       subst hh0;subst hl0;have hb:=Zg (P:=P) (w:=w) (isS:=true) (len:=0) (cap:=cap) hlo hhi h1 h2 (Nat.le_refl _) (Nat.zero_le _);refine ⟨.slice (if cap = 0 then b else b.map (·.add 0)) 0 cap,w,E1,.inl ?_,by simpa using VRel.lst0 _ _,R1,G1,K1⟩;unfold execOp;simp only [ho,hv,Instr.sliceAt,Sem.run_bind,run_underlying hsh,Result.andThen_ok,Instr.slice,Option.map_none];simp [hb,hse]
      | lst rows b q cap sz hn hcap hz' hp f hM hV =>
       have hb:=Zg (P:=P) (w:=w) (isS:=true) (len:=rows.length) (cap:=cap) hlo hhi h1 h2 hlh (by omega);refine ⟨.slice (if cap = l then some ⟨b,q,none⟩ else some ⟨b,q + l * te.size,none⟩) (h - l) (cap - l),w,E1,.inl ?_,?_,R1,G1,K1⟩
       ·unfold execOp;simp only [ho,hv,Instr.sliceAt,Sem.run_bind,run_underlying hsh,Result.andThen_ok,Instr.slice,Option.map_none];simp [hb,hse,addr_add]
       ·have hlen:((rows.take h).drop l).length = h - l:=by simp;omega
        by_cases hemp:h = l
        ·subst hemp;have:(rows.take h).drop h = []:=List.eq_nil_of_length_eq_zero (by rw [hlen];omega);rw [this,Nat.sub_self];exact .lst0 _ _
        ·have hszz:sz = te.size:=by
          cases rows with
          | nil=>exact absurd rfl hn
          | cons r0 rest =>
           have h8:=hz' r0 (by simp);have h9:=List.all_eq_true.1 hrz r0 (by simp);simp only [beq_iff_eq] at h9;omega
         rw [if_neg (by omega),<- hlen,<- hszz];have hmem:∀ r,r ∈ (rows.take h).drop l->r ∈ rows:=fun r hr=>List.mem_of_mem_take (List.mem_of_mem_drop hr);have hgt:∀ (i:Nat) (r:List HV),((rows.take h).drop l)[i]? = some r->rows[l + i]? = some r:=by
          intro i r hr;rw [List.getElem?_drop,List.getElem?_take] at hr
          split at hr
          ·exact hr
          ·cases hr
         refine .lst _ b (q + l * sz) (cap - l) sz (fun hh=>by rw [hh] at hlen;simp at hlen;omega) (by rw [hlen];omega) (fun r hr=>hz' r (hmem r hr)) (fun r hr=>hp r (hmem r hr)) (fun i j=>f (l + i) j) (fun i j r c hi hj=>?_) (fun i j r c hi hj=>hV _ j r c (hgt i r hi) hj);have:=hM (l + i) j r c (hgt i r hi) hj;rw [Nat.add_mul] at this;rw [show q + l * sz + i * sz + j = q + (l * sz + i * sz) + j by omega];exact this
     ·cases hc
    ·cases hc
   ·cases hc
  ·cases hc

end
end Go.Proofs.XVai
end
section
namespace Go.Proofs.XVai
open Go

theorem zA7 (need:Nat):∀ (r c:Nat),c<=2 * need + 1000->Builtin.growBy need r c<=2 * need + 1000
 | 0,c,h=>h
 | r + 1,c,h=>by
  unfold Builtin.growBy
  split
  ·exact h
  ·exact zA7 need r _ (by omega)

theorem zDr {need cap:Nat} (h:cap < need):Builtin.nextslicecap need cap<=2 * need + 1000:=by
 unfold Builtin.nextslicecap
 split
 ·omega
 ·split
  ·omega
  ·exact zA7 _ _ _ (by omega)

theorem zBa {z:Nat} {us:List Value} {rows:List (List HV)} {E:Env} (hl:us.length = rows.length * z) (hz:∀ r ∈ rows,r.length = z)
  (hv:∀ (i j:Nat) (r:List HV) (c:HV) (u:Value),rows[i]? = some r->r[j]? = some c->us[i * z + j]? = some u->VRel E c u) {i j:Nat} {r:List HV} {c:HV} (hi:rows[i]? = some r) (hj:r[j]? = some c) :
  ∃ u,us[i * z + j]? = some u/\VRel E c u:=by
 have h1:i < rows.length:=(List.getElem?_eq_some_iff.1 hi).1;have h2:j < z:=by rw [<- hz r (List.mem_of_getElem? hi)];exact (List.getElem?_eq_some_iff.1 hj).1
 have h3:i * z + z<=rows.length * z:=by rw [<- Nat.succ_mul];exact Nat.mul_le_mul_right _ h1
 have h4:i * z + j < us.length:=by omega
 exact ⟨us[i * z + j],by simp [h4],hv i j r c _ hi hj (by simp [h4])⟩

section
variable {P:Program} {Y:Sys} {E:Env} {C:Nat->Option Ob} {w:World}

theorem Q0 {rows:List (List HV)} {z b q:Nat} (hz:∀ r ∈ rows,r.length = z) (h:∀ (i j:Nat) (r:List HV) (c:HV),rows[i]? = some r->r[j]? = some c->∃ u,w.cell? ⟨b,q + (i * z + j),none⟩ = some u/\VRel E c u) :
  ∃ us:List Value,us.length = rows.length * z/\(∀ w':World,w'.heap = w.heap->(loadCells ⟨b,q,none⟩ (rows.length * z)).run P w' = .ok us.toArray w') /\
   (∀ (i j:Nat) (r:List HV) (c:HV) (u:Value),rows[i]? = some r->r[j]? = some c->us[i * z + j]? = some u->VRel E c u)/\∀ (p:Nat) (u:Value),us[p]? = some u->w.cell? ⟨b,q + p,none⟩ = some u:=by
 have hzp:∀ p,p < rows.length * z->0 < z:=fun p hp=>by
  rcases Nat.eq_zero_or_pos z with h0 | h0
  ·rw [h0] at hp;omega
  ·exact h0
 obtain ⟨us,hl,hu⟩:=XQ (rows.length * z) (fun p u=>w.cell? ⟨b,q + p,none⟩ = some u/\∀ r c,rows[p / z]? = some r->r[p % z]? = some c->VRel E c u) (fun p hp=>by
  have hz0:=hzp p hp;have h1:p / z < rows.length:=by rw [Nat.div_lt_iff_lt_mul hz0];exact hp
  have h2:p % z < rows[p / z].length:=by rw [hz _ (by simp)];exact Nat.mod_lt _ hz0
  obtain ⟨u,h3,h4⟩:=h (p / z) (p % z) rows[p / z] rows[p / z][p % z] (by simp [h1]) (by simp [h2]);have h5:p / z * z + p % z = p:=by rw [Nat.mul_comm];exact Nat.div_add_mod p z
  rw [h5] at h3;refine ⟨u,h3,fun r c hr hc=>?_⟩;rw [List.getElem?_eq_getElem h1] at hr;cases hr;rw [List.getElem?_eq_getElem h2] at hc;cases hc;exact h4)
 have hrun:∀ w':World,w'.heap = w.heap->(loadCells ⟨b,q,none⟩ (rows.length * z)).run P w' = .ok us.toArray w':=fun w' hw'=>by
  have:=run_loadCells_list (P:=P) w' ⟨b,q,none⟩ us (fun p u hpu=>by
   rw [addr_add];have h1:=(hu p u hpu).1;unfold World.cell? at h1 ⊢;rw [hw'];exact h1)
  rw [hl] at this;exact this
 refine ⟨us,hl,hrun,fun i j r c u hi hj hu'=>?_,fun p u hpu=>(hu p u hpu).1⟩;have hj':j < z:=by rw [<- hz r (List.mem_of_getElem? hi)];exact (List.getElem?_eq_some_iff.1 hj).1
 have h1:(i * z + j) / z = i:=by
  rw [Nat.mul_comm,Nat.mul_add_div (by omega),Nat.div_eq_of_lt hj',Nat.add_zero]
 have h2:(i * z + j) % z = j:=by rw [Nat.mul_comm,Nat.mul_add_mod,Nat.mod_eq_of_lt hj']
 exact (hu _ u hu').2 r c (by rw [h1];exact hi) (by rw [h2];exact hj)

theorem zEW (hR:Rel Y E C w) {S:St} (hA:∀ k,yV C S k) {y:HV} {v:Value} (hy:VRel E y v) {rs:List (List HV)} {z:Nat} (hr:rowsOf S y = some rs) (hz:∀ r ∈ rs,r.length = z) :
  ∃ us:List Value,us.length = rs.length * z/\(∀ w,(Builtin.lenOf v).run P w = .ok rs.length w)/\(∀ w':World,w'.heap = w.heap->(Builtin.firstCells z rs.length v).run P w' = .ok us.toArray w') /\
   (∀ (i j:Nat) (r:List HV) (c:HV) (u:Value),rs[i]? = some r->r[j]? = some c->us[i * z + j]? = some u->VRel E c u):=by
 cases hy with
 | nils b =>
  simp only [rowsOf,Option.some.injEq] at hr;subst hr;refine ⟨[],by simp,fun _=>rfl,fun w' _=>?_,by simp⟩;cases b <;> simp [Builtin.firstCells,loadCells,loadCellsFrom]
 | lst0 b cap =>
  simp only [rowsOf,Option.some.injEq] at hr;subst hr;refine ⟨[],by simp,fun _=>rfl,fun w' _=>?_,by simp⟩;cases b <;> simp [Builtin.firstCells,loadCells,loadCellsFrom]
 | lst rows b o cap sz hn hcap hz' hp f hM hV =>
  simp only [rowsOf,Option.some.injEq] at hr;subst hr;have hszz:sz = z:=by
   cases rows with
   | nil=>exact absurd rfl hn
   | cons r0 rest=>rw [<- hz' r0 (by simp),<- hz r0 (by simp)]
  subst hszz;obtain ⟨us,h1,h2,h3,_⟩:=Q0 (P:=P) (E:=E) (w:=w) (b:=b) (q:=o) hz (fun i j r c hi hj=>⟨f i j,by rw [<- Nat.add_assoc];exact hR.mem _ _ _ (hM i j r c hi hj),hV i j r c hi hj⟩);exact ⟨us,h1,fun _=>rfl,fun w' hw'=>by simpa [Builtin.firstCells] using h2 w' hw',h3⟩
 | sl k n sz base cap hd hcap =>
  simp only [rowsOf] at hr
  split at hr
  ·rename_i fr rows hS
   split at hr
   ·rename_i hn;simp only [Option.some.injEq] at hr;subst hr;subst hn;obtain ⟨fr0,rows0,hC0,_⟩:=hR.hdC _ _ _ hd;have hC:C k = some (.cells fr rows):=by
     rcases hA k _ hC0 with h1 | h1 <;> rw [hS] at h1 <;> cases h1;exact hC0
    obtain ⟨sz',base',cap',h1,h2,h3,h4,h5,h6⟩:=hR.cells _ _ _ hC;rw [hd] at h1;simp only [Option.some.injEq,Prod.mk.injEq] at h1;obtain ⟨rfl,rfl,rfl⟩:=h1;cases base with
    | none =>
     have hc0:=h5 rfl;have hr0:rows = []:=List.eq_nil_of_length_eq_zero (by omega);subst hr0;exact ⟨[],by simp,fun _=>rfl,fun w' _=>by simp [Builtin.firstCells],by simp⟩
    | some B =>
     obtain ⟨cs,ty,g1,g2,g3,g4⟩:=h6 B rfl
     by_cases hemp:rows = []
     ·subst hemp;exact ⟨[],by simp,fun _=>rfl,fun w' _=>by simp [Builtin.firstCells,loadCells,loadCellsFrom],by simp⟩
     ·have hszz:sz = z:=by
       cases rows with
       | nil=>exact absurd rfl hemp
       | cons r0 rest=>rw [<- h3 r0 (by simp),<- hz r0 (by simp)]
      subst hszz;obtain ⟨us,e1,e2,e3,_⟩:=Q0 (P:=P) (E:=E) (w:=w) (b:=B) (q:=0) h3 (fun i j r c hi hj=>by
       obtain ⟨u,hu,hr⟩:=g3 i j r c hi hj;exact ⟨u,by rw [Nat.zero_add,cell_of_row w B _ cs ty _ g1];exact hu,hr⟩)
      exact ⟨us,e1,fun _=>rfl,fun w' hw'=>by simpa [Builtin.firstCells] using e2 w' hw',e3⟩
   ·cases hr
  ·cases hr
 | _=>simp [rowsOf] at hr

theorem U4 {z:Value} {n:Nat}:(Builtin.zeroCells z.cells n).size = n * z.cells.size:=by simp [Builtin.zeroCells]

theorem zAM (need cap t elem:Nat):need<=(Question.appendCap need cap elem).cut t:=by simp [Question.cut]

theorem Y4 {w:World} {t t2 ty el:TypeId} {te:TI} (hY:SysOk Y P) (hu:P.underlying t = some (.slice el)) (hte:Y.tab el = some te) (hu2:∃ e2,P.underlying t2 = some (.slice e2))
  {base:Option Addr} {sLen cap n:Nat} {v:Value} {us old:List Value} (hlen:∀ w,(Builtin.lenOf v).run P w = .ok n w) (hus:∀ w':World,w'.heap = w.heap->(Builtin.firstCells te.size n v).run P w' = .ok us.toArray w')
  (hl:us.length = n * te.size) (hol:old.length = sLen * te.size) (hold:∀ w':World,w'.heap = w.heap->(Builtin.firstCells te.size sLen (.slice base sLen cap)).run P w' = .ok old.toArray w') (hlim:sLen + n<=lim) (hcap:sLen<=cap) :
  (sLen + n<=cap->(Builtin.append_ #[t,t2] ty #[.slice base sLen cap,v]).run P w =
   ((match base with | some a=>storeCells (a.add (sLen * te.size)) us | none=>pure ()).run P w).andThen fun _ w'=>.ok (.slice base (sLen + n) cap) w') /\
  (cap < sLen + n->∃ (newCap:Nat) (rest:Array Value) (d:Nat),sLen + n<=newCap/\rest.size = (newCap - (sLen + n)) * te.size /\
   (Builtin.append_ #[t,t2] ty #[.slice base sLen cap,v]).run P w = .ok (.slice (some ⟨w.heap.size,0,none⟩) (sLen + n) newCap)
    { { w with drawn:=d } with heap:=w.heap.push (.cells (old.toArray++us.toArray++rest) el) }):=by
 have hT:=hY.tab _ _ hte;obtain ⟨i,z,h1,h2,h3,h4,_,_,h7,_⟩:=hT.info;have hse:=hT.run_size;obtain ⟨e2,hu2⟩:=hu2;have hinfo:∀ w,(typeInfo el).run P w = .ok i w:=fun w=>by simp [typeInfo,h1]
 have hzero:∀ w,(zeroValue el).run P w = .ok z w:=fun w=>by simp [zeroValue,typeInfo,h1,h4]
 have hzeros:∀ w,(underlying t2).run P w = .ok (.slice e2) w:=fun w=>run_underlying hu2 w;refine ⟨fun hc=>?_,fun hc=>?_⟩
 ·simp only [Builtin.append_,List.getElem?_toArray,List.getElem?_cons_zero,List.getElem?_cons_succ,Sem.run_bind,run_underlying hu,Result.andThen_ok,hse,hzeros,Sem.run_pure,hlen];simp only [Bool.false_eq_true,if_false,hlen,Result.andThen_ok,Bool.not_false,if_true,hc,Sem.run_bind,hus w rfl];cases base with
  | none=>simp
  | some a=>simp
 ·have hb:¬ Builtin.nextslicecap (sLen + n) cap * i.bytes > 2 ^ 48:=by
   have h9:Builtin.nextslicecap (sLen + n) cap * i.bytes<=(2 * (sLen + n) + 1000) * 4096:=Nat.mul_le_mul (zDr hc) h3;unfold lim at hlim;omega
  refine ⟨(Question.appendCap (sLen + n) cap el).cut (w.tape w.drawn (.appendCap (sLen + n) cap el)),Builtin.zeroCells z.cells ((Question.appendCap (sLen + n) cap el).cut (w.tape w.drawn (.appendCap (sLen + n) cap el)) - (sLen + n)),w.drawn + 1,zAM _ _ _ _,by rw [U4,h7],?_⟩;simp only [Builtin.append_,List.getElem?_toArray,List.getElem?_cons_zero,List.getElem?_cons_succ,Sem.run_bind,run_underlying hu,Result.andThen_ok,hse,hzeros,Sem.run_pure,hlen];simp only [Bool.false_eq_true,if_false,hlen,Result.andThen_ok,Bool.not_false,if_true,Nat.not_le.2 hc,Sem.run_bind,Sem.run_ite,hinfo,hb,run_choose,Question.forced,run_askRoom];have h63:¬ ((((sLen + n:Nat)):Int) > IntKind.i64.max/\(False\/i.bytes = 0)):=by
   rintro ⟨h,_⟩;unfold lim at hlim;simp [IntKind.max,IntKind.signed,IntKind.bits] at h;omega
  rw [if_neg h63,hold { w with drawn:=w.drawn + 1 } rfl,Result.andThen_ok,hus { w with drawn:=w.drawn + 1 } rfl,Result.andThen_ok,hzero,Result.andThen_ok];rfl

theorem Go1.undrew {E E':Env} {w w1 w':World} (h:Go1 E w1 E' w') (h1:w1.heap = w.heap) (h2:w1.os = w.os) (h3:w1.tape = w.tape) (h4:w1.output = w.output):Go1 E w E' w' where
 le:=h.le
 os:=h.os.trans h2
 tape:=h.tape.trans h3
 output:=h.output.trans h4
 size:=by rw [<- h1];exact h.size
 frame:=by rw [<- h1];exact h.frame
 fresh:=by rw [<- h1];exact h.fresh

theorem getElem?_join {z:Nat} {a b:List Value} {c:Array Value} {n i j:Nat} (ha:a.length = n * z) (hj:j < z) :
  (a.toArray++b.toArray++c)[i * z + j]? = if i < n then a[i * z + j]? else if i * z + j < n * z + b.length then b[(i - n) * z + j]? else c[i * z + j - (n * z + b.length)]?:=by
 by_cases hi:i < n
 ·rw [if_pos hi];have h3:i * z + z<=n * z:=by rw [<- Nat.succ_mul];exact Nat.mul_le_mul_right _ hi
  rw [Array.getElem?_append_left (by simp;omega),Array.getElem?_append_left (by simp;omega)];simp
 ·rw [if_neg hi];have h3:n * z<=i * z:=Nat.mul_le_mul_right _ (by omega)
  by_cases h4:i * z + j < n * z + b.length
  ·rw [if_pos h4,Array.getElem?_append_left (by simp;omega),Array.getElem?_append_right (by simp;omega)];simp only [List.size_toArray,List.getElem?_toArray];congr 1;rw [Nat.sub_mul];omega
  ·rw [if_neg h4,Array.getElem?_append_right (by simp;omega)];simp [ha]

theorem V3 {z:Nat} {rows rs:List (List HV)} {a b:List Value} (hz:∀ r ∈ rows,r.length = z) (hz2:∀ r ∈ rs,r.length = z) (ha:a.length = rows.length * z) (hb:b.length = rs.length * z)
  (hva:∀ (i j:Nat) (r:List HV) (c:HV) (u:Value),rows[i]? = some r->r[j]? = some c->a[i * z + j]? = some u->VRel E c u)
  (hvb:∀ (i j:Nat) (r:List HV) (c:HV) (u:Value),rs[i]? = some r->r[j]? = some c->b[i * z + j]? = some u->VRel E c u) (rest:Array Value)
  (i j:Nat) (r:List HV) (c:HV) (hi:(rows++rs)[i]? = some r) (hj:r[j]? = some c):∃ v,(a.toArray++b.toArray++rest)[i * z + j]? = some v/\VRel E c v:=by
 by_cases h:i < rows.length
 ·rw [List.getElem?_append_left h] at hi;have hj':j < z:=by rw [<- hz r (List.mem_of_getElem? hi)];exact (List.getElem?_eq_some_iff.1 hj).1
  rw [getElem?_join ha hj',if_pos h];exact zBa ha hz hva hi hj
 ·rw [List.getElem?_append_right (by omega)] at hi;have hj':j < z:=by rw [<- hz2 r (List.mem_of_getElem? hi)];exact (List.getElem?_eq_some_iff.1 hj).1
  have hlt:=(List.getElem?_eq_some_iff.1 hi).1;have h3:(i - rows.length) * z + z<=rs.length * z:=by rw [<- Nat.succ_mul];exact Nat.mul_le_mul_right _ hlt
  have h4:i * z = rows.length * z + (i - rows.length) * z:=by rw [<- Nat.add_mul];congr 1;omega
  rw [getElem?_join ha hj',if_neg h,if_pos (by omega)];exact zBa hb hz2 hvb hi hj

theorem zDy (hY:SysOk Y P) (hR:Rel Y E C w) {fz mu:Bool} {S S1:St} {pl:Option Nat} (hN:X4 C S pl) (hA:∀ k,yV C S k) {x y:Operand} {t t2 el e2:Nat} {ti ti2 te:TI} {o:Oper}
  (ho:o.op = .call { callee:=.builtin .append,args:=#[x,y],argTypes:=#[t,t2] }) (ht:Y.tab t = some ti) (hs:ti.sh = .slice el) (ht2:Y.tab t2 = some ti2) (hs2:ti2.sh = .slice e2) (hte:Y.tab el = some te)
  (ρ:Operand->Value) {cx cy c:HV} (hx:VRel E cx (ρ x)) (hy:VRel E cy (ρ y)) (hc:uW fz mu pl S te.size cx cy = some (c,S1)):Sim P Y E C w S S1 pl o ρ c:=by
 have hu:=(hY.tab _ _ ht).sh;rw [hs] at hu;have hu2:=(hY.tab _ _ ht2).sh;rw [hs2] at hu2;have hexec:∀ r w',(Builtin.append_ #[t,t2] o.type #[ρ x,ρ y]).run P w = .ok r w'->(execOp ρ o).run P w = .ok (.value r) w':=by
  intro r w' h;unfold execOp;simp only [ho,resolve,Sem.run_bind,Sem.run_pure,Result.andThen_ok,invoke,builtin];simp [h]
 simp only [uW] at hc
 split at hc
 ·cases hc
 ·rename_i rs hrs
  split at hc
  ·rename_i hall;have hz:∀ r ∈ rs,r.length = te.size:=fun r hr=>by
    have:=List.all_eq_true.1 hall r hr;simp only [Bool.and_eq_true,beq_iff_eq] at this;exact this.1
   have hcell:∀ r ∈ rs,∀ c ∈ r,zo c = true:=fun r hr c hc=>by
    have:=List.all_eq_true.1 hall r hr;simp only [Bool.and_eq_true] at this;exact List.all_eq_true.1 this.2 c hc
   obtain ⟨us,hul,hlen,hus,huv⟩:=zEW (P:=P) hR hA hy hrs hz
   split at hc
   ·-- nothing yet
    generalize hv:ρ x = v at hx;cases hx with
    | nils b =>
     have hold:∀ w':World,w'.heap = w.heap->(Builtin.firstCells te.size 0 (.slice b 0 0)).run P w' = .ok ([]:List Value).toArray w':=fun w' _=>by
      cases b <;> simp [Builtin.firstCells,loadCells,loadCellsFrom]
     split at hc
     ·rename_i hemp;simp only [Option.some.injEq,Prod.mk.injEq] at hc;obtain ⟨rfl,rfl⟩:=hc;have hr0:rs = []:=by simpa using hemp
      subst hr0;have hu0:us = []:=List.eq_nil_of_length_eq_zero (by simpa using hul);subst hu0;have hrun:=(Y4 (w:=w) (ty:=o.type) hY hu hte ⟨e2,hu2⟩ (base:=b) (sLen:=0) (cap:=0) (n:=0) (v:=ρ y) hlen hus (by simp) (by simp) hold (by simp [lim]) (Nat.le_refl _)).1 (Nat.le_refl _);refine Sim.same hR (v:=.slice b 0 0) (hexec _ _ ?_) (.nils b);rw [hv,hrun];cases b <;> simp [storeCells]
     ·rename_i hemp
      split at hc
      ·rename_i hl
       split at hc
       ·rename_i hfz;simp only [Bool.and_eq_true] at hfz;simp only [Option.some.injEq,Prod.mk.injEq] at hc;obtain ⟨rfl,rfl⟩:=hc;have hpos:0 < rs.length:=by
         cases rs with
         | nil=>simp at hemp
         | cons a b=>simp
        obtain ⟨newCap,rest,d,h1,h2,hrun⟩:=(Y4 (w:=w) (ty:=o.type) hY hu hte ⟨e2,hu2⟩ (base:=b) (sLen:=0) (cap:=0) (n:=rs.length) (v:=ρ y) hlen hus hul (by simp) hold (by simpa using hl) (Nat.le_refl _)).2 (by omega);have hRd:Rel Y E C { w with drawn:=d }:=hR.drew rfl;obtain ⟨R2,G2⟩:=zEM hRd (([]:List Value).toArray++us.toArray++rest) el;rw [Nat.zero_add] at hrun;have hget:∀ (i j:Nat) (r:List HV) (c:HV),rs[i]? = some r->r[j]? = some c->∃ u,(([]:List Value).toArray++us.toArray++rest)[0 + i * te.size + j]? = some u/\VRel E c u:=fun i j r c hi hj=>by
         rw [Nat.zero_add];exact V3 (E:=E) (rows:=[]) (rs:=rs) (a:=[]) (b:=us) (by simp) hz (by simp) hul (by simp) huv rest i j r c (by simpa using hi) hj
        refine ⟨.slice (some ⟨w.heap.size,0,none⟩) rs.length newCap,_,_,.inl (hexec _ _ (by rw [hv];exact hrun)),?_,by rw [yI];exact R2,G2.undrew rfl rfl rfl rfl,Kept3.same _ _ _⟩;exact VRel.lst (E:={ E with M:=fun b o=>if b = w.heap.size then (([]:List Value).toArray++us.toArray++rest)[o]? else E.M b o }) rs w.heap.size 0 newCap te.size (fun h=>by rw [h] at hpos;simp at hpos) (by omega) hz
         (fun r hr c hc=>List.all_eq_true.1 (List.all_eq_true.1 hfz.2 r hr) c hc) (fun i j=>((([]:List Value).toArray++us.toArray++rest)[0 + i * te.size + j]?).getD undef)
         (fun i j r c hi hj=>by
          obtain ⟨u,e1,e2⟩:=hget i j r c hi hj;show (if w.heap.size = w.heap.size then (([]:List Value).toArray++us.toArray++rest)[0 + i * te.size + j]? else _) = _;rw [if_pos rfl,e1];rfl)
         (fun i j r c hi hj=>by
          obtain ⟨u,e1,e2⟩:=hget i j r c hi hj;rw [e1];exact e2.mono G2.le)
       simp only [Option.some.injEq,Prod.mk.injEq] at hc;obtain ⟨rfl,rfl⟩:=hc;have hpos:0 < rs.length:=by
        cases rs with
        | nil=>simp at hemp
        | cons a b=>simp
       obtain ⟨newCap,rest,d,h1,h2,hrun⟩:=(Y4 (w:=w) (ty:=o.type) hY hu hte ⟨e2,hu2⟩ (base:=b) (sLen:=0) (cap:=0) (n:=rs.length) (v:=ρ y) hlen hus hul (by simp) hold (by simpa using hl) (Nat.le_refl _)).2 (by omega);have hRd:Rel Y E C { w with drawn:=d }:=hR.drew rfl;have hk:=VD hN (.cells (!mu) rs);have hput:=hRd.putCells (w':={ { w with drawn:=d } with heap:=w.heap.push (.cells (([]:List Value).toArray++us.toArray++rest) el) }) (newOb pl S (.cells (!mu) rs)).1 (!mu) rs te.size (some w.heap.size) newCap (.inl hk) rfl rfl rfl (by simp)
        (fun b' hb' _=>by simp [Array.getElem?_push];have:b' < w.heap.size:=hb';omega) (fun B hB=>by cases hB;exact ⟨.inl (Nat.le_refl _),by simp⟩) (by omega) hz (fun h=>by rw [h] at hpos;simp at hpos) (fun h=>by cases h)
        (fun B hB=>by
         cases hB;refine ⟨([]:List Value).toArray++us.toArray++rest,el,by simp,by simp only [Array.size_append,List.size_toArray,List.length_nil,Nat.zero_add,hul,h2];rw [<- Nat.add_mul];congr 1;omega,fun i j r c hi hj=>?_,fun q u hq=>?_⟩
         ·obtain ⟨u,hu',hr'⟩:=V3 (E:=E) (rows:=[]) (rs:=rs) (a:=[]) (b:=us) (by simp) hz (by simp) hul (by simp) huv rest i j r c (by simpa using hi) hj;exact ⟨u,hu',hr'.mono (Env.le_setHd hR hk)⟩
         ·have hm:=hR.mem _ _ _ hq;unfold World.cell? at hm;simp at hm)
       rw [Nat.zero_add] at hrun;refine ⟨.slice (some ⟨w.heap.size,0,none⟩) rs.length newCap,_,_,.inl (hexec _ _ (by rw [hv];exact hrun)),?_,by rw [YN hN (by simp)];exact hput.1,hput.2.undrew rfl rfl rfl rfl,Kept3.new _ _ _ _⟩;exact .sl _ _ te.size (some w.heap.size) newCap (by simp [xV]) (by omega)
      ·cases hc
   ·-- rows of one's own
    rename_i k n
    split at hc
    ·rename_i fr rows hS
     split at hc
     ·rename_i hcc;obtain ⟨hn,hl,hall2⟩:=hcc;simp only [Option.some.injEq,Prod.mk.injEq] at hc;obtain ⟨rfl,rfl⟩:=hc;subst hn;have hz2:∀ r ∈ rows,r.length = te.size:=fun r hr=>by have:=List.all_eq_true.1 hall2 r hr;simpa using this
      obtain ⟨olds,hol,hlo,hold,hov⟩:=zEW (P:=P) hR hA hx (rs:=rows) (z:=te.size) (by simp [rowsOf,hS]) hz2;generalize hv:ρ x = v at hx hlo hold;cases hx with
      | sl k n sz base cap hd hcap =>
       obtain ⟨fr0,rows0,hC0,_⟩:=hR.hdC _ _ _ hd;have hC:C k = some (.cells fr rows):=by
        rcases hA k _ hC0 with h1 | h1 <;> rw [hS] at h1 <;> cases h1;exact hC0
       obtain ⟨sz',base',cap',h1,h2,h3,h4,h5,h6⟩:=hR.cells _ _ _ hC;rw [hd] at h1;simp only [Option.some.injEq,Prod.mk.injEq] at h1;obtain ⟨rfl,rfl,rfl⟩:=h1;have hra:=Y4 (w:=w) (ty:=o.type) hY hu hte ⟨e2,hu2⟩ (base:=base.map fun B=>⟨B,0,none⟩) (sLen:=rows.length) (cap:=cap) (n:=rs.length) (v:=ρ y) hlen hus hul hol hold hl hcap;have hz3:∀ r ∈ rows++rs,r.length = te.size:=fun r hr=>(List.mem_append.1 hr).elim (hz2 r) (hz r)
       by_cases hfit:rows.length + rs.length<=cap
       ·-- in place
        have hrun:=hra.1 hfit;cases base with
        | none =>
         have hc0:=h5 rfl;have hr0:rows = []:=List.eq_nil_of_length_eq_zero (by omega);have hr1:rs = []:=List.eq_nil_of_length_eq_zero (by omega);subst hr0;subst hr1;refine ⟨.slice none 0 cap,w,E,.inl (hexec _ _ (by rw [hv,hrun];simp)),by simpa using VRel.sl k 0 sz none cap hd (Nat.zero_le _),?_,Go1.refl _ _,Kept3.set _ hC hS⟩;rw [uK hS (.inl hC)];simp only [List.append_nil];rw [V5 hC];exact hR
        | some B =>
         obtain ⟨cs,ty,g1,g2,g3,g4⟩:=h6 B rfl
         by_cases hrs0:rs = []
         ·subst hrs0;have hu0:us = []:=List.eq_nil_of_length_eq_zero (by simpa using hul);subst hu0;refine ⟨.slice (some ⟨B,0,none⟩) rows.length cap,w,E,.inl (hexec _ _ (by rw [hv,hrun];simp [storeCells])),by simpa using VRel.sl k rows.length sz (some B) cap hd hcap,?_,Go1.refl _ _,Kept3.set _ hC hS⟩;rw [uK hS (.inl hC)];simp only [List.append_nil];rw [V5 hC];exact hR
         ·have hszz:sz = te.size:=by
           cases rows with
           | nil=>have:=h4 rfl;have h0:0 < rs.length:=List.length_pos_iff.2 hrs0;simp at hfit;omega
           | cons r0 rest=>rw [<- h3 r0 (by simp),<- hz2 r0 (by simp)]
          subst hszz;have hbnd:rows.length * te.size + us.length<=cs.size:=by rw [hul,g2,<- Nat.add_mul];exact Nat.mul_le_mul_right _ hfit
          have hone:∀ u ∈ us,u.oneCell' = true:=fun u hu'=>by
           obtain ⟨p,hp⟩:=List.getElem?_of_mem hu';have hpl:p < rs.length * te.size:=by rw [<- hul];exact (List.getElem?_eq_some_iff.1 hp).1
           have hz0:0 < te.size:=by
            rcases Nat.eq_zero_or_pos te.size with h0 | h0
            ·rw [h0] at hpl;omega
            ·exact h0
           have e1:p / te.size < rs.length:=by rw [Nat.div_lt_iff_lt_mul hz0];exact hpl
           have e2:p % te.size < rs[p / te.size].length:=by rw [hz _ (by simp)];exact Nat.mod_lt _ hz0
           have e3:p / te.size * te.size + p % te.size = p:=by rw [Nat.mul_comm];exact Nat.div_add_mod p te.size
           exact Qh (huv _ _ _ _ u (List.getElem?_eq_getElem e1) (List.getElem?_eq_getElem e2) (by rw [e3];exact hp)) (hcell _ (List.getElem_mem e1) _ (List.getElem_mem e2))
          have hst:=run_storeCells_at P B (rows.length * te.size) ty us 0 cs w g1 (by simpa using hbnd) hone;simp only [Nat.add_zero] at hst;have hsp:=zAH cs.toList us (rows.length * te.size)
          let cs':Array Value:=(cs.toList.take (rows.length * te.size)++us++cs.toList.drop (rows.length * te.size + us.length)).toArray
          have hget:∀ q,cs'[q]? = if q < rows.length * te.size then cs[q]? else if q < rows.length * te.size + us.length then us[q - rows.length * te.size]? else cs[q]?:=by
           intro q;have:=hsp q (by simpa using hbnd);simp only [Array.getElem?_toList] at this;simp only [cs',List.getElem?_toArray];exact this
          have hsz':cs'.size = cs.size:=by
           simp only [cs',List.size_toArray,List.length_append,List.length_take,List.length_drop,Array.length_toList];omega
          have hlen3:(rows++rs).length = rows.length + rs.length:=by simp
          have hpos:0 < rs.length:=List.length_pos_iff.2 hrs0;have hput:=hR.putCells (w':=w.setRow B cs') k fr (rows++rs) te.size (some B) cap (.inr ⟨_,_,hC,by omega,fun h=>by omega⟩) rfl rfl rfl
           (by rw [setRow_size];exact Nat.le_refl _) (fun b hb hne=>zBI w B b cs' (fun e=>hne (by rw [e])))
           (fun B' hB'=>by cases hB';exact ⟨.inr ⟨_,_,_,hd⟩,by rw [setRow_size];exact hR.bound _ _ _ _ _ hd⟩) (by omega) hz3 (fun h=>by rw [h] at hlen3;simp at hlen3;omega) (fun h=>by cases h)
           (fun B' hB'=>by
            cases hB';have hle:E.le (xV E k (rows++rs).length (te.size,some B,cap)):=by
             refine ⟨fun k1 n1 h1 hh=>?_,fun _ _ h=>h,fun _ _ _ h=>h⟩;simp only [xV]
             split
             ·rename_i he;obtain ⟨_,_,e1,e2⟩:=hR.hdC _ _ _ hh;rw [he.1,hC] at e1;cases e1;omega
             ·exact hh
            refine ⟨cs',ty,setRow_heap w B cs cs' ty _ g1,by rw [hsz',g2],fun i j r c hi hj=>?_,fun q u hq=>?_⟩
            ·have hj':j < te.size:=by rw [<- hz3 r (List.mem_of_getElem? hi)];exact (List.getElem?_eq_some_iff.1 hj).1
             by_cases hii:i < rows.length
             ·rw [List.getElem?_append_left hii] at hi;obtain ⟨u,e1,e2⟩:=g3 i j r c hi hj;have e3:i * te.size + te.size<=rows.length * te.size:=by rw [<- Nat.succ_mul];exact Nat.mul_le_mul_right _ hii
              exact ⟨u,by rw [hget,if_pos (by omega)];exact e1,e2.mono hle⟩
             ·rw [List.getElem?_append_right (by omega)] at hi;obtain ⟨u,e1,e2⟩:=zBa hul hz huv hi hj;have e4:i * te.size = rows.length * te.size + (i - rows.length) * te.size:=by rw [<- Nat.add_mul];congr 1;omega
              have e5:=(List.getElem?_eq_some_iff.1 e1).1;refine ⟨u,?_,e2.mono hle⟩;rw [hget,if_neg (by omega),if_pos (by omega),show i * te.size + j - rows.length * te.size = (i - rows.length) * te.size + j by omega];exact e1
            ·obtain ⟨e1,e2⟩:=g4 q u hq;refine ⟨e1,by rw [hlen3,Nat.add_mul];omega,?_⟩;rw [hget,if_pos e2];have:=hR.mem _ _ _ hq;rw [cell_of_row w B q cs ty _ g1] at this;exact this)
          refine ⟨.slice (some ⟨B,0,none⟩) (rows.length + rs.length) cap,w.setRow B cs',_,.inl (hexec _ _ ?_),?_,by rw [uK hS (.inl hC)];exact hput.1,hput.2,Kept3.set _ hC hS⟩
          ·rw [hv,hrun];simp only [Option.map_some,addr_add,Nat.zero_add];rw [hst];rfl
          ·rw [<- hlen3];exact .sl _ _ te.size (some B) cap (by simp [xV]) (by omega)
       ·-- elsewhere
        obtain ⟨newCap,rest,d,h7,h8,hrun⟩:=hra.2 (by omega);have hRd:Rel Y E C { w with drawn:=d }:=hR.drew rfl;have hpos:0 < rs.length:=by omega
        have hlen3:(rows++rs).length = rows.length + rs.length:=by simp
        have hput:=hRd.putCells (w':={ { w with drawn:=d } with heap:=w.heap.push (.cells (olds.toArray++us.toArray++rest) el) }) k fr (rows++rs) te.size (some w.heap.size) newCap
         (.inr ⟨_,_,hC,by omega,fun h=>by omega⟩) rfl rfl rfl (by simp)
         (fun b' hb' _=>by simp [Array.getElem?_push];have:b' < w.heap.size:=hb';omega) (fun B hB=>by cases hB;exact ⟨.inl (Nat.le_refl _),by simp⟩) (by omega) hz3 (fun h=>by rw [h] at hlen3;simp at hlen3;omega) (fun h=>by cases h)
         (fun B hB=>by
          cases hB;refine ⟨olds.toArray++us.toArray++rest,el,by simp,by simp only [Array.size_append,List.size_toArray,hul,h8,hol];rw [<- Nat.add_mul,<- Nat.add_mul];congr 1;omega,fun i j r c hi hj=>?_,fun q u hq=>?_⟩
          ·obtain ⟨u,hu',hr'⟩:=V3 (E:=E) (rows:=rows) (rs:=rs) (a:=olds) (b:=us) hz2 hz hol hul hov huv rest i j r c hi hj;have hle:E.le (xV E k (rows++rs).length (te.size,some w.heap.size,newCap)):=by
            refine ⟨fun k1 n1 h1 hh=>?_,fun _ _ h=>h,fun _ _ _ h=>h⟩;simp only [xV]
            split
            ·rename_i he;obtain ⟨_,_,e1,e2⟩:=hR.hdC _ _ _ hh;rw [he.1,hC] at e1;cases e1;omega
            ·exact hh
           exact ⟨u,hu',hr'.mono hle⟩
          ·have hm:=hR.mem _ _ _ hq;unfold World.cell? at hm;simp at hm)
        refine ⟨.slice (some ⟨w.heap.size,0,none⟩) (rows.length + rs.length) newCap,_,_,.inl (hexec _ _ (by rw [hv];exact hrun)),?_,by rw [uK hS (.inl hC)];exact hput.1,hput.2.undrew rfl rfl rfl rfl,Kept3.set _ hC hS⟩;rw [<- hlen3];exact .sl _ _ te.size (some w.heap.size) newCap (by simp [xV]) (by omega)
     ·cases hc
    ·cases hc
   ·cases hc
  ·cases hc

end
end Go.Proofs.XVai
end
section
namespace Go.Proofs.XVai
open Go

theorem Xf {C:Nat->Option Ob} {S S1 S2:St} (h1:∀ k,k < S.length->S1[k]? = S[k]?) (h2:∀ k,k < S1.length->S2[k]? = S1[k]?) (hN:∀ k,S.length<=k->C k = none) (hl:S.length<=S1.length) :
  updC (updC C S S1) S1 S2 = updC C S S2:=by
 funext k;simp only [updC]
 by_cases hk:k < S.length
 ·rw [h2 k (by omega),h1 k hk];simp
 ·have hSk:S[k]? = none:=List.getElem?_eq_none (by omega)
  by_cases hk1:k < S1.length
  ·rw [h2 k hk1,hSk,if_pos rfl]
  ·have hS1k:S1[k]? = none:=List.getElem?_eq_none (by omega);rw [hSk,hS1k,if_pos rfl]

theorem wrap_small {n:Nat} (h:n<=9223372036854775807):IntKind.i64.wrap n = n:=by
 simp only [IntKind.wrap,IntKind.bits,IntKind.signed];have:(n:Int) % 2 ^ 64 = n:=by omega
 simp only [this,Bool.true_and];rw [if_neg (by simp;omega)]

section
variable {P:Program} {Y:Sys} {E:Env} {C:Nat->Option Ob} {w:World}

theorem zFI {z:Value} (hok:z.cells.toList.all vW = true) (fl:Nat->Bool) (pr:Bool):∀ (n:Nat) (S S1:St) (E:Env) (C:Nat->Option Ob) (rows:List (List HV)),Rel Y E C w->(∀ k,S.length<=k->C k = none) ->
  zrows fl pr (z.cells.toList.map xM) n S = (rows,S1)->∃ E',Rel Y E' (updC C S S1) w/\Go1 E w E' w/\S.length<=S1.length/\(∀ k,k < S.length->S1[k]? = S[k]?)/\(∀ k,S1.length<=k->updC C S S1 k = none)/\rows.length = n/\(∀ r ∈ rows,CellsRel E' r z.cells)/\(pr = false->S1 = S):=by
 intro n
 induction n with
 | zero =>
  intro S S1 E C rows hR hN hz;simp only [zrows,Prod.mk.injEq] at hz;obtain ⟨rfl,rfl⟩:=hz;exact ⟨E,by rw [yI];exact hR,Go1.refl _ _,Nat.le_refl _,fun _ _=>rfl,by rw [yI];exact hN,rfl,by simp,fun _=>rfl⟩
 | succ n ih =>
  intro S S1 E C rows hR hN hz;simp only [zrows] at hz;generalize hq:zrow fl pr (z.cells.toList.map xM) S = q at hz;obtain ⟨r,Sa⟩:=q;simp only at hz;generalize hq2:zrows fl pr (z.cells.toList.map xM) n Sa = q2 at hz;obtain ⟨rs,Sb⟩:=q2;simp only [Prod.mk.injEq] at hz;obtain ⟨rfl,rfl⟩:=hz;have h1:∃ E',Rel Y E' (updC C S Sa) w/\Go1 E w E' w/\S.length<=Sa.length/\(∀ k,k < S.length->Sa[k]? = S[k]?)/\(∀ k,Sa.length<=k->updC C S Sa k = none)/\CellsRel E' r z.cells/\(pr = false->Sa = S):=by
   unfold zrow at hq;cases pr with
   | false =>
    simp only [Bool.false_eq_true,if_false,Prod.mk.injEq] at hq;obtain ⟨rfl,rfl⟩:=hq;exact ⟨E,by rw [yI];exact hR,Go1.refl _ _,Nat.le_refl _,fun _ _=>rfl,by rw [yI];exact hN,Xi hok,fun _=>rfl⟩
   | true =>
    simp only [if_true] at hq;obtain ⟨E',R2,G2,N2,L2,K2,V2⟩:=UV (Y:=Y) (w:=w) fl z.cells.toList 0 S Sa E C r hok hq hR hN;exact ⟨E',R2,G2,L2,K2,N2,⟨by simpa using V2.1,fun j c v h1 h2=>V2.2 j c v h1 (by simpa using h2)⟩,by simp⟩
  obtain ⟨E1,R1,G1,L1,K1,N1,V1,F1⟩:=h1;obtain ⟨E2,R2,G2,L2,K2,N2,hl,V2,F2⟩:=ih Sa Sb E1 _ rs R1 N1 hq2;rw [Xf K1 K2 hN L1] at R2 N2;refine ⟨E2,R2,G1.trans G2,by omega,fun k hk=>by rw [K2 k (by omega),K1 k hk],N2,by simp [hl],fun r' hr'=>?_,fun h=>by rw [F2 h,F1 h]⟩;rcases List.mem_cons.1 hr' with rfl | h
  ·exact V1.mono G2.le
  ·exact V2 r' h

theorem zDV (fl:Nat->Bool) (z:List HV):∀ (n:Nat) (S:St),zrows fl false z n S = (List.replicate n z,S):=by
 intro n
 induction n with
 | zero=>intro S;rfl
 | succ n ih=>intro S;simp [zrows,zrow,ih,List.replicate_succ]

theorem zE3 {z:Nat} {rows:List (List HV)} {zc:Array Value} (hs:zc.size = z) (hr:∀ r ∈ rows,CellsRel E r zc) (i j:Nat) (r:List HV) (c:HV) (hi:rows[i]? = some r) (hj:r[j]? = some c) :
  ∃ v,((Array.range (rows.length * z)).map (fun i=>zc[i % z]!))[i * z + j]? = some v/\VRel E c v:=by
 have h1:=hr r (List.mem_of_getElem? hi);have hj':j < z:=by rw [<- hs,<- h1.1];exact (List.getElem?_eq_some_iff.1 hj).1
 have hi':=(List.getElem?_eq_some_iff.1 hi).1;have h3:i * z + z<=rows.length * z:=by rw [<- Nat.succ_mul];exact Nat.mul_le_mul_right _ hi'
 have h4:(i * z + j) % z = j:=by rw [Nat.mul_comm,Nat.mul_add_mod,Nat.mod_eq_of_lt hj']
 refine ⟨zc[j]'(by omega),?_,h1.2 j c _ hj (by simp [hs,hj'])⟩;simp only [Array.getElem?_map,Array.getElem?_range];rw [if_pos (by omega)];simp only [Option.map_some,h4];congr 1;exact getElem!_pos zc j (by omega)

theorem zAn (hY:SysOk Y P) (hR:Rel Y E C w) (fl:Nat->Bool) {pr mu:Bool} {S S1:St} {pl:Option Nat} (hN:X4 C S pl) (hpr:pr = true->pl = none) {t el:Nat} {ti te:TI} {l cc:Operand} {o:Oper} (ho:o.op = .makeSlice t l cc)
  (ht:Y.tab t = some ti) (hs:ti.sh = .slice el) (hte:Y.tab el = some te) (ρ:Operand->Value) {kd kd2:IntKind} {n:Int} {k:Nat} (hl:VRel E (.int kd n) (ρ l)) (hc:VRel E (.int kd2 n) (ρ cc)) (hk:Z8 n = some k) (hlim:k<=lim)
  {rows:List (List HV)} (hz:zrows fl pr te.zero k S = (rows,S1)):Sim P Y E C w S (newOb pl S1 (.cells (!mu) rows)).2 pl o ρ (.sl (newOb pl S1 (.cells (!mu) rows)).1 k):=by
 have hu:=(hY.tab _ _ ht).sh;rw [hs] at hu;have hT:=hY.tab _ _ hte;obtain ⟨i,z,h1,h2,h3,h4,hok,hzero,hsz,_⟩:=hT.info;rw [hzero] at hz;have hmk:∃ E1,Rel Y E1 (updC C S S1) w/\Go1 E w E1 w/\rows.length = k/\(∀ r ∈ rows,CellsRel E1 r z.cells)/\X4 (updC C S S1) S1 pl/\(∀ k,k < S.length->S1[k]? = S[k]?) /\
   updC C S (newOb pl S1 (.cells (!mu) rows)).2 = updC (updC C S S1) S1 (newOb pl S1 (.cells (!mu) rows)).2:=by
  cases pl with
  | none =>
   obtain ⟨E1,R1,G1,L1,K1,N1,hlen,V1,F1⟩:=zFI (Y:=Y) (w:=w) hok fl pr k S S1 E C rows hR hN hz;exact ⟨E1,R1,G1,hlen,V1,N1,K1,(Xf K1 (fun k hk=>List.getElem?_append_left hk) hN L1).symm⟩
  | some s =>
   have hp:pr = false:=by cases pr with
    | false=>rfl
    | true=>have:=hpr rfl;cases this
   subst hp;rw [zDV] at hz;simp only [Prod.mk.injEq] at hz;obtain ⟨rfl,rfl⟩:=hz;exact ⟨E,by rw [yI];exact hR,Go1.refl _ _,by simp,fun r hr=>by rw [List.eq_of_mem_replicate hr];exact Xi hok,by rw [yI];exact hN,fun _ _=>rfl,by rw [yI]⟩
 obtain ⟨E1,R1,G1,hlen,V1,hN1,K1,hupd⟩:=hmk;obtain ⟨R2,G2⟩:=YX R1 (VD hN1 (.cells (!mu) rows)) (!mu) rows te.size ((Array.range (rows.length * te.size)).map (fun i=>z.cells[i % te.size]!)) el (fun r hr=>by rw [(V1 r hr).1,hsz]) (by simp)
  (fun i j r c hi hj=>by
   have:=zE3 hsz V1 i j r c hi hj;exact this)
 have hcomp:updC C S (newOb pl S1 (.cells (!mu) rows)).2 = vI (updC C S S1) (newOb pl S1 (.cells (!mu) rows)).1 (.cells (!mu) rows):=by
  rw [hupd,YN hN1 (by simp)]
 have hkept:Kept3 C S (newOb pl S1 (.cells (!mu) rows)).2 pl:=by
  intro j hj hne hp;cases pl with
  | none =>
   have hl:j < S1.length:=by
    have:=K1 j hj;rw [List.getElem?_eq_getElem hj] at this;exact (List.getElem?_eq_some_iff.1 this).1
   exact absurd ((List.getElem?_append_left hl).trans (K1 j hj)) hne
  | some s=>exact absurd ((List.getElem?_set_ne (fun e=>hp (by rw [e]))).trans (K1 j hj)) hne
 obtain ⟨h0,hkk⟩:=uu hk;have hn:n = (k:Int):=by omega
 subst hn;generalize hlv:ρ l = lv at hl;generalize hcv:ρ cc = cv at hc;cases hl;cases hc;refine ⟨.slice (some ⟨w.heap.size,0,none⟩) k k,_,_,.inl ?_,?_,by rw [hcomp];exact R2,G1.trans G2,hkept⟩
 ·unfold execOp;have hinfo:∀ w,(typeInfo el).run P w = .ok i w:=fun w=>by simp [typeInfo,h1]
  have hw:IntKind.i64.wrap (k:Int) = k:=wrap_small (by unfold lim at hlim;omega);have hb:¬ (i.bytes:Int) * (k:Int) > 2 ^ 48:=by
   have h5:i.bytes * k<=4096 * lim:=Nat.mul_le_mul h3 hlim;rw [<- Int.natCast_mul];unfold lim at h5;generalize i.bytes * k = q at h5 ⊢;omega
  have hse:=hT.run_size;have hzv:∀ w,(zeroValue el).run P w = .ok z w:=fun w=>by simp [zeroValue,typeInfo,h1,h4]
  have ha:∀ w,(asInt (.int kd (k:Int))).run P w = .ok (k:Int) w:=fun _=>rfl;have ha2:∀ w,(asInt (.int kd2 (k:Int))).run P w = .ok (k:Int) w:=fun _=>rfl;rw [ho];simp only [hlv,hcv];unfold Instr.makeSlice;rw [Sem.run_bind,Sem.run_bind,run_underlying hu,Result.andThen_ok];simp only [Sem.run_bind,ha,ha2,hinfo,Result.andThen_ok];simp only [hw];have hc1:¬ ((decide ((k:Int) < 0)||decide ((i.bytes:Int) * (k:Int) > 2 ^ 48)||decide ((k:Int) < 0)||decide ((k:Int) > (k:Int))) = true):=by
   simp only [Bool.or_eq_true,decide_eq_true_eq,not_or];exact ⟨⟨⟨by omega,hb⟩,by omega⟩,by omega⟩
  rw [if_neg hc1];simp only [Sem.run_bind,run_askRoom,Result.andThen_ok,hse,Int.toNat_natCast,Sem.run_ite]
  by_cases hk0:k * te.size = 0
  ·rw [if_pos hk0];have h0:∀ f:Nat->Value,Array.map f (Array.range 0) = #[]:=fun f=>by apply Array.ext <;> simp
   simp only [Sem.run_pure,Result.andThen_ok,Sem.run_bind,newRow,run_newObj,hk0,hlen,h0]
  ·rw [if_neg hk0];simp only [Sem.run_pure,Result.andThen_ok,Sem.run_bind,newRow,run_newObj,hzv,hlen,hsz]
 ·rw [hlen];exact .sl _ _ te.size (some w.heap.size) k (by simp [xV]) (Nat.le_refl _)

/-! numbers -/
theorem zGU {op:BinOp} {x y c:HV} {u v:Value} (hx:VRel E x u) (hy:VRel E y v) (h:Wn op x y = some c) (t:TypeId):∃ r,(binOp op t u v).run P w = .ok r w/\VRel E c r/\(∀ xs,u≠.agg xs)/\u≠.nilIface:=by
 unfold Wn at h
 split at h
 ·rename_i k a k' b;cases hx;cases hy;refine (fun ⟨r,h1,h2⟩=>⟨r,h1,h2,by simp,by simp⟩:(∃ r,(binOp op t (.int k a) (.int k' b)).run P w = .ok r w/\VRel E c r)->_) ?_;cases op <;> simp only at h
  case shl =>
   split at h
   ·cases h
   ·rename_i hb;simp only [Option.some.injEq] at h;subst h;exact ⟨_,by simp only [binOp,Op.shift];rw [if_neg hb];rfl,.int _ _⟩
  case shr =>
   split at h
   ·cases h
   ·rename_i hb;simp only [Option.some.injEq] at h;subst h;exact ⟨_,by simp only [binOp,Op.shift];rw [if_neg hb];rfl,.int _ _⟩
  case quo =>
   split at h
   ·rename_i hkk;subst hkk
    split at h
    ·cases h
    ·rename_i hb;simp only [Option.some.injEq] at h;subst h;exact ⟨_,by simp only [binOp,Op.intDiv];rw [if_neg (by simp),if_neg hb];rfl,.int _ _⟩
   ·cases h
  case rem =>
   split at h
   ·rename_i hkk;subst hkk
    split at h
    ·cases h
    ·rename_i hb;simp only [Option.some.injEq] at h;subst h;exact ⟨_,by simp only [binOp,Op.intDiv];rw [if_neg (by simp),if_neg hb];rfl,.int _ _⟩
   ·cases h
  case add | sub | mul | and | or | xor | andNot =>
   split at h
   ·rename_i hkk;subst hkk;simp only [Option.some.injEq] at h;subst h;exact ⟨_,by simp only [binOp];rw [if_neg (by simp)];rfl,.int _ _⟩
   ·cases h
  case eql | neq | lss | leq | gtr | geq =>
   split at h
   ·rename_i hkk;subst hkk;simp only [Option.some.injEq] at h;subst h;exact ⟨_,by simp only [binOp];rw [if_neg (by simp)];rfl,.bool _⟩
   ·cases h
  all_goals (split at h <;> cases h)
 ·rename_i a b;cases hx;cases hy;refine (fun ⟨r,h1,h2⟩=>⟨r,h1,h2,by simp,by simp⟩:(∃ r,(binOp op t (.string a) (.string b)).run P w = .ok r w/\VRel E c r)->_) ?_;cases op <;> simp only at h
  case add =>
   split at h
   ·rename_i hl;simp only [Option.some.injEq] at h;subst h;refine ⟨.string (a++b),?_,.str _⟩;simp only [binOp,Op.stringOp];rw [if_neg (by simp only [IntKind.max,IntKind.signed,IntKind.bits,if_true];omega)];rfl
   ·cases h
  case eql =>
   simp only [Option.some.injEq] at h;subst h;exact ⟨_,rfl,.bool _⟩
  case neq =>
   simp only [Option.some.injEq] at h;subst h;exact ⟨_,rfl,.bool _⟩
  all_goals cases h
 ·cases h

theorem Wj (t:TypeId) (x y:Value):Op.equal t x y = Op.equalIn (9999 + 1) t x y:=rfl

theorem wJ {op:BinOp} {t:TypeId} {x y:Operand} {a b:Value} (h1:∀ xs,a≠.agg xs) (h2:a≠.nilIface):(eqGuard op t x y a b).run P w = .ok () w:=by
 cases a with
 | agg xs=>exact absurd rfl (h1 xs)
 | nilIface=>exact absurd rfl h2
 | _=>cases op <;> rfl

theorem run_eqGuard_agg {op:BinOp} {t:TypeId} {x y:Operand} {us vs:Array Value} (hg:P.eqGuardType P.depth t = false):(eqGuard op t x y (.agg us) (.agg vs)).run P w = .ok () w:=by
 have key:(do
   if !(<- program).eqGuardType (<- program).depth t then return
   if <- Op.eqGuardIn Op.maxDepth t (.agg us) (.agg vs) then unsupported (.noEntry "binop/eql: two nil values of an interface type with methods, in a part of a struct or an array"):Sem Unit).run P w = .ok () w:=by
  simp only [Sem.run_bind,run_program,Result.andThen_ok,hg,Bool.not_false,if_true,Sem.run_pure]
 cases op <;> first | rfl | exact key

theorem run_equal_bool {t:TypeId} (hu:P.underlying t = some .bool) (a b:Bool):(Op.equal t (.bool a) (.bool b)).run P w = .ok (a == b) w:=by
 rw [Wj];unfold Op.equalIn;rw [Sem.run_bind,run_underlying hu,Result.andThen_ok];rfl
theorem WC {t e:TypeId} (hu:P.underlying t = some (.pointer e)) (a:Option Addr):(Op.equal t (.pointer a) (.pointer none)).run P w = .ok a.isNone w:=by
 rw [Wj];unfold Op.equalIn;rw [Sem.run_bind,run_underlying hu,Result.andThen_ok];cases a <;> rfl

theorem Uw (hR:Rel Y E C w) {S:St} {pl:Option Nat} {op:BinOp} {t yt:TypeId} {x y:Operand} {o:Oper} (ho:o.op = .binOp op t x y yt) (ρ:Operand->Value) {cx cy c:HV} (hx:VRel E cx (ρ x)) (hy:VRel E cy (ρ y))
  (h:Wn op cx cy = some c):Sim P Y E C w S S pl o ρ c:=by
 obtain ⟨r,h1,h2,h3,h4⟩:=zGU (P:=P) (w:=w) hx hy h t;refine Sim.same hR (v:=r) ?_ h2;unfold execOp;simp only [ho,Sem.run_bind,wJ h3 h4,Result.andThen_ok,h1,Sem.run_pure]

theorem zGT (hY:SysOk Y P) (hR:Rel Y E C w) {S:St} {pl:Option Nat} {op:BinOp} {t yt:TypeId} {x y:Operand} {o:Oper} (ho:o.op = .binOp op t x y yt) (ρ:Operand->Value) {aS bs:List HV} (hx:VRel E (.agg aS) (ρ x)) (hy:VRel E (.agg bs) (ρ y))
  {ti:TI} (ht:Y.tab t = some ti) (hq:ti.eqok = true) (hagg:ti.agg = true) (h1:aS.length = ti.size) (h2:bs.length = ti.size) (h3:aS.all isI = true) {b:Bool} (hb:eqL aS bs = some b) :
  (op = .eql->Sim P Y E C w S S pl o ρ (.bool b))/\(op = .neq->Sim P Y E C w S S pl o ρ (.bool !b)):=by
 have hT:=hY.tab _ _ ht;have heq:=hT.eqok hq (.agg aS) (.agg bs) E _ _ w b h1 h2 h3 hx hy (fun _=>⟨aS,bs,rfl,rfl⟩) (fun h=>by rw [hagg] at h;cases h) hb;have hg:=hT.guard hq hagg;generalize hu:ρ x = u at hx heq;generalize hv:ρ y = v at hy heq;cases hx with
 | agg _ us _ _ =>
  cases hy with
  | agg _ vs _ _ =>
   have hguard:(eqGuard op t x y (.agg us) (.agg vs)).run P w = .ok () w:=run_eqGuard_agg hg;refine ⟨fun e=>?_,fun e=>?_⟩ <;> subst e
   ·refine Sim.same hR (v:=.bool b) ?_ (.bool _);unfold execOp;simp only [ho,hu,hv,Sem.run_bind,hguard,Result.andThen_ok,binOp,heq,Sem.run_pure]
   ·refine Sim.same hR (v:=.bool !b) ?_ (.bool _);unfold execOp;simp only [ho,hu,hv,Sem.run_bind,hguard,Result.andThen_ok,binOp,heq,Sem.run_pure]

theorem Q7 (hY:SysOk Y P) (hR:Rel Y E C w) {S:St} {pl:Option Nat} {op:BinOp} {t yt:TypeId} {x y:Operand} {o:Oper} (ho:o.op = .binOp op t x y yt) (ρ:Operand->Value) {a b:Bool} (hx:VRel E (.bool a) (ρ x)) (hy:VRel E (.bool b) (ρ y))
  {ti:TI} (ht:Y.tab t = some ti) (hs:ti.sh = .bool) :
  (op = .eql->Sim P Y E C w S S pl o ρ (.bool (a == b)))/\(op = .neq->Sim P Y E C w S S pl o ρ (.bool !(a == b))):=by
 have hu:=(hY.tab _ _ ht).sh;rw [hs] at hu;generalize hxv:ρ x = u at hx;generalize hyv:ρ y = v at hy;cases hx;cases hy;refine ⟨fun e=>?_,fun e=>?_⟩ <;> subst e
 ·refine Sim.same hR (v:=.bool (a == b)) ?_ (.bool _);unfold execOp;simp only [ho,hxv,hyv,Sem.run_bind,wJ (P:=P) (w:=w) (op:=.eql) (t:=t) (x:=x) (y:=y) (a:=.bool a) (b:=.bool b) (by simp) (by simp),Result.andThen_ok,binOp,run_equal_bool hu,Sem.run_pure]
 ·refine Sim.same hR (v:=.bool !(a == b)) ?_ (.bool _);unfold execOp;simp only [ho,hxv,hyv,Sem.run_bind,wJ (P:=P) (w:=w) (op:=.neq) (t:=t) (x:=x) (y:=y) (a:=.bool a) (b:=.bool b) (by simp) (by simp),Result.andThen_ok,binOp,run_equal_bool hu,Sem.run_pure]

theorem Y8 (hY:SysOk Y P) (hR:Rel Y E C w) {S:St} {pl:Option Nat} {op:BinOp} {t yt:TypeId} {x y:Operand} {o:Oper} (ho:o.op = .binOp op t x y yt) (ρ:Operand->Value) {cx:HV} (hx:VRel E cx (ρ x)) (hy:VRel E .nilptr (ρ y))
  {ti:TI} (ht:Y.tab t = some ti) {e:Nat} (hs:ti.sh = .ptr e) {b:Bool} (hc:(cx = .nilptr/\b = true)\/((∃ k n i o,cx = .ptr k n i o)/\b = false)) :
  (op = .eql->Sim P Y E C w S S pl o ρ (.bool b))/\(op = .neq->Sim P Y E C w S S pl o ρ (.bool !b)):=by
 have hu:=(hY.tab _ _ ht).sh;rw [hs] at hu;generalize hxv:ρ x = u at hx;generalize hyv:ρ y = v at hy;cases hy;have key:(Op.equal t u (.pointer none)).run P w = .ok b w/\(∀ xs,u≠.agg xs)/\u≠.nilIface/\∃ a,u = .pointer a:=by
  rcases hc with ⟨rfl,rfl⟩ | ⟨⟨k,n,i,q,rfl⟩,rfl⟩
  ·cases hx;exact ⟨WC hu _,by simp,by simp,_,rfl⟩
  ·cases hx;exact ⟨WC hu _,by simp,by simp,_,rfl⟩
 obtain ⟨k1,k2,k3,a,rfl⟩:=key;refine ⟨fun e=>?_,fun e=>?_⟩ <;> subst e
 ·refine Sim.same hR (v:=.bool b) ?_ (.bool _);unfold execOp;simp only [ho,hxv,hyv,Sem.run_bind,wJ (P:=P) (w:=w) (op:=.eql) (t:=t) (x:=x) (y:=y) (b:=.pointer none) k2 k3,Result.andThen_ok,binOp,k1,Sem.run_pure]
 ·refine Sim.same hR (v:=.bool !b) ?_ (.bool _);unfold execOp;simp only [ho,hxv,hyv,Sem.run_bind,wJ (P:=P) (w:=w) (op:=.neq) (t:=t) (x:=x) (y:=y) (b:=.pointer none) k2 k3,Result.andThen_ok,binOp,k1,Sem.run_pure]

end
end Go.Proofs.XVai
end
section
namespace Go.Proofs.XVai
open Go

theorem zHm {a b:HV} (h:eqC a b = some true):a = b:=by
 unfold eqC at h
 split at h
 ·simp at h;rw [h]
 ·split at h
  ·simp at h;simp_all
  ·cases h
 ·rfl
 ·cases h
 ·cases h
 ·cases h

theorem zFm:∀ {a b:List HV},eqL a b = some true->a = b:=by
 intro a
 induction a with
 | nil=>intro b h;cases b <;> simp_all [eqL]
 | cons x a ih =>
  intro b h;cases b with
  | nil=>simp [eqL] at h
  | cons y b =>
   simp only [eqL] at h
   split at h
   ·rename_i p q hp hq;simp only [Option.some.injEq,Bool.and_eq_true] at h;obtain ⟨rfl,rfl⟩:=h;rw [zHm hp,ih hq]
   ·cases h

section
variable {P:Program} {Y:Sys} {E:Env} {C:Nat->Option Ob} {w:World}

theorem Rel.putMap (hR:Rel Y E C w) {k r:Nat} {es':List (HV × HV)} {en':Array MapEntry} {clock':Nat} {w':World} (hold:(C k = none/\r = w.heap.size)\/((∃ es,C k = some (.map es))/\E.mp k = some r))
  (hos:w'.os = w.os) (htape:w'.tape = w.tape) (hout:w'.output = w.output) (hsize:w.heap.size<=w'.heap.size) (hframe:∀ b,b < w.heap.size->b≠r->w'.heap[b]? = w.heap[b]?)
  (hr:w'.heap[r]? = some (.map en' clock')) (hlen:es'.length = en'.size)
  (hv:∀ (i:Nat) (e:HV × HV) (m:MapEntry),es'[i]? = some e->en'[i]? = some m->VRel E e.1 m.key/\VRel E e.2 m.val) :
  let E':Env:={ E with mp:=fun k'=>if k' = k then some r else E.mp k' }
  Rel Y E' (vI C k (.map es')) w'/\Go1 E w E' w':=by
 intro E';have hle:E.le E':=by
  refine ⟨fun _ _ _ h=>h,fun k1 r1 h=>?_,fun _ _ _ h=>h⟩;show (if k1 = k then some r else E.mp k1) = some r1
  split
  ·rename_i hk;subst hk;rcases hold with ⟨h1,_⟩ | ⟨_,h2⟩
   ·obtain ⟨es,h3⟩:=hR.mpC _ _ h;rw [h1] at h3;cases h3
   ·rw [<- h2,h]
  ·exact h
 have hnocell:∀ fr rows,C k≠some (.cells fr rows):=fun fr rows h=>by
  rcases hold with ⟨h1,_⟩ | ⟨⟨es,h1⟩,_⟩ <;> rw [h1] at h <;> cases h
 have hnohd:∀ n h,E.hd k n≠some h:=fun n h hh=>by
  obtain ⟨fr,rows,h1,_⟩:=hR.hdC _ _ _ hh;exact hnocell _ _ h1
 have hrB:∀ k1 n sz B cap,E.hd k1 n = some (sz,some B,cap)->B≠r:=fun k1 n sz B cap h e=>by
  rcases hold with ⟨_,h1⟩ | ⟨_,h2⟩
  ·have:=hR.bound _ _ _ _ _ h;omega
  ·exact hR.hdm _ _ _ _ _ _ h (e ▸ h2)
 refine ⟨⟨?_,?_,?_,?_,hR.inj,?_,?_,?_,?_,?_,zBs hR.nodummy k (by simp)⟩,⟨hle,hos,htape,hout,hsize,?_,?_⟩⟩
 ·intro k1 n h hh;obtain ⟨fr,rows,h1,h2⟩:=hR.hdC k1 n h hh;have hk:k1≠k:=fun e=>hnohd n h (e ▸ hh);simp only [vI,if_neg hk];exact ⟨fr,rows,h1,h2⟩
 ·intro k1 r1 h;simp only [vI]
  by_cases hk:k1 = k
  ·rw [if_pos hk];exact ⟨_,rfl⟩
  ·rw [if_neg hk]
   replace h:(if k1 = k then some r else E.mp k1) = some r1:=h
   rw [if_neg hk] at h;exact hR.mpC _ _ h
 ·intro k1 fr rows h;simp only [vI] at h
  by_cases hk:k1 = k
  ·rw [if_pos hk] at h;cases h
  ·rw [if_neg hk] at h;obtain ⟨sz,base,cap,h1,h2,h3,h4,h5,h6⟩:=hR.cells _ _ _ h;refine ⟨sz,base,cap,h1,h2,h3,h4,h5,fun B hB=>?_⟩;obtain ⟨cs,ty,g1,g2,g3,g4⟩:=h6 B hB;subst hB;refine ⟨cs,ty,by rw [hframe B (hR.bound _ _ _ _ _ h1) (hrB _ _ _ _ _ h1)];exact g1,g2,fun i j r c hi hj=>?_,g4⟩;obtain ⟨v,hv,hr⟩:=g3 i j r c hi hj;exact ⟨v,hv,hr.mono hle⟩
 ·intro k1 es h;simp only [vI] at h
  by_cases hk:k1 = k
  ·rw [if_pos hk] at h;cases h;exact ⟨r,en',clock',by show (if k1 = k then some r else E.mp k1) = some r;rw [if_pos hk],hr,hlen,fun i e m he hm=>⟨((hv i e m he hm).1).mono hle,((hv i e m he hm).2).mono hle⟩⟩
  ·rw [if_neg hk] at h;obtain ⟨r1,en,cl,h1,h2,h3,h4⟩:=hR.maps _ _ h;have hne:r1≠r:=fun e=>by
    rcases hold with ⟨_,h5⟩ | ⟨_,h5⟩
    ·have:=(Array.getElem?_eq_some_iff.1 h2).1;omega
    ·exact hk (hR.injm _ _ _ h1 (e ▸ h5))
   exact ⟨r1,en,cl,hle.mp _ _ h1,by rw [hframe r1 (Array.getElem?_eq_some_iff.1 h2).1 hne];exact h2,h3,fun i e m he hm=>⟨((h4 i e m he hm).1).mono hle,((h4 i e m he hm).2).mono hle⟩⟩
 ·intro k1 k2 r1 h1 h2
  replace h1:(if k1 = k then some r else E.mp k1) = some r1:=h1
  replace h2:(if k2 = k then some r else E.mp k2) = some r1:=h2
  have hother:∀ k3,k3≠k->E.mp k3≠some r:=fun k3 hk3 h=>by
   rcases hold with ⟨_,h5⟩ | ⟨_,h5⟩
   ·obtain ⟨es,h6⟩:=hR.mpC _ _ h;obtain ⟨r2,en,cl,h7,h8,_⟩:=hR.maps _ _ h6;rw [h] at h7;cases h7;have:=(Array.getElem?_eq_some_iff.1 h8).1;omega
   ·exact hk3 (hR.injm _ _ _ h h5)
  by_cases e1:k1 = k <;> by_cases e2:k2 = k
  ·rw [e1,e2]
  ·rw [if_pos e1] at h1;rw [if_neg e2] at h2;cases h1;exact absurd h2 (hother _ e2)
  ·rw [if_neg e1] at h1;rw [if_pos e2] at h2;cases h2;exact absurd h1 (hother _ e1)
  ·rw [if_neg e1] at h1;rw [if_neg e2] at h2;exact hR.injm _ _ _ h1 h2
 ·intro k1 n sz B cap k2 h1 h2
  replace h2:(if k2 = k then some r else E.mp k2) = some B:=h2
  split at h2
  ·cases h2;exact hrB _ _ _ _ _ h1 rfl
  ·exact hR.hdm _ _ _ _ _ _ h1 h2
 ·intro k1 n sz B cap h;have:=hR.bound _ _ _ _ _ h;omega
 ·intro b o v h;have hm:=hR.mem _ _ _ h;unfold World.cell? at hm ⊢;have hb:b < w.heap.size:=by
   rcases Nat.lt_or_ge b w.heap.size with h | h
   ·exact h
   ·simp [Array.getElem?_eq_none h] at hm
  have hne:b≠r:=fun e=>by
   rcases hold with ⟨_,h5⟩ | ⟨⟨es,h5⟩,h6⟩
   ·omega
   ·obtain ⟨r2,en,cl,h7,h8,_⟩:=hR.maps _ _ h5;rw [h6] at h7;cases h7;simp only at hm;rw [e,h8] at hm;simp at hm
  simp only at hm ⊢;rw [hframe b hb hne];exact hm
 ·intro g row hg;obtain ⟨h1,f,h2⟩:=hR.glob g row hg;exact ⟨h1,f,fun j c hj=>⟨(h2 j c hj).1,((h2 j c hj).2).mono hle⟩⟩
 ·intro b hb ho;refine hframe b hb fun e=>?_;rcases hold with ⟨_,h5⟩ | ⟨_,h6⟩
  ·omega
  ·exact ho (.inr ⟨k,e ▸ h6⟩)
 ·intro b hb;rcases hb with ⟨k1,n,sz,cap,h⟩ | ⟨k1,h⟩
  ·exact .inl (.inl ⟨_,_,_,_,h⟩)
  ·replace h:(if k1 = k then some r else E.mp k1) = some b:=h
   split at h
   ·cases h;rcases hold with ⟨_,h5⟩ | ⟨_,h6⟩
    ·right;omega
    ·exact .inl (.inr ⟨k,h6⟩)
   ·exact .inl (.inr ⟨k1,h⟩)

theorem zDD (hR:Rel Y E C w) {S:St} {pl:Option Nat} (hN:X4 C S pl) {t:Nat} {o:Oper} (ho:o.op = .makeMap t none) (ρ:Operand->Value) :
  Sim P Y E C w S (newOb pl S (.map [])).2 pl o ρ (.map (newOb pl S (.map [])).1):=by
 obtain ⟨R1,G1⟩:=hR.putMap (k:=(newOb pl S (.map [])).1) (r:=w.heap.size) (es':=[]) (en':=#[]) (clock':=0) (w':={ w with heap:=w.heap.push (.map #[] 0) }) (.inl ⟨VD hN _,rfl⟩) rfl rfl rfl (by simp)
  (fun b hb _=>by simp [Array.getElem?_push];omega) (by simp) rfl (by simp)
 refine ⟨.map (some w.heap.size),_,_,.inl ?_,.map _ _ (by simp),by rw [YN hN (by simp)];exact R1,G1,Kept3.new _ _ _ _⟩;unfold execOp;simp only [ho,Option.map_none,Instr.makeMap,Sem.run_bind,run_newObj,Result.andThen_ok,Sem.run_pure]

def UH (ti:TI) (x:HV):Prop:=ti.eqok = true/\x.cells.length = ti.size/\(ti.agg = true->∃ l,x = .agg l)/\(ti.agg = false->zo x = true)/\x.cells.all isI = true

theorem zA4 {ti:TI} {x y:HV} {b:Bool} (hx:UH ti x) (h:eqL x.cells y.cells = some b) (hk:ti.agg = true->∃ l,y = .agg l) (hk2:ti.agg = false->zo y = true):UH ti y:=by
 have:∀ (a c:List HV) (b:Bool),eqL a c = some b->a.length = c.length:=by
  intro a
  induction a with
  | nil=>intro c b h;cases c <;> simp_all [eqL]
  | cons p a ih =>
   intro c b h;cases c with
   | nil=>simp [eqL] at h
   | cons q c =>
    simp only [eqL] at h
    split at h
    ·rename_i h2;simp [ih _ _ h2]
    ·cases h
 have alli:∀ (a c:List HV) (b:Bool),eqL a c = some b->a.all isI = true->c.all isI = true:=by
  intro a
  induction a with
  | nil=>intro c b h _;cases c <;> simp_all [eqL]
  | cons p a ih =>
   intro c b h hi;cases c with
   | nil=>rfl
   | cons q c =>
    simp only [eqL] at h
    split at h
    ·rename_i h1 h2;simp only [List.all_cons,Bool.and_eq_true] at hi ⊢;refine ⟨?_,ih _ _ h2 hi.2⟩;have hp:=hi.1;unfold isI at hp
     split at hp
     ·cases q <;> simp [eqC] at h1;rw [<- h1.1];rfl
     ·cases hp
    ·cases h
 exact ⟨hx.1,by rw [<- this _ _ _ h];exact hx.2.1,hk,hk2,alli _ _ _ h hx.2.2.2.2⟩

theorem cells_one {a:HV} (h:zo a = true):a.cells = [a]:=by cases a <;> first | rfl | (simp [zo] at h)

theorem QQ (hY:SysOk Y P) {kt:Nat} {tk:TI} (ht:Y.tab kt = some tk) {x:HV} {kx:Value} (hx:VRel E x kx) (hk:UH tk x):∀ (es:List (HV × HV)) (en:List MapEntry) (i:Nat),es.length = en.length ->
  (∀ (i:Nat) (e:HV × HV) (m:MapEntry),es[i]? = some e->en[i]? = some m->VRel E e.1 m.key/\VRel E e.2 m.val)->(∀ e ∈ es,(tk.agg = true->∃ l,e.1 = .agg l)/\(tk.agg = false->zo e.1 = true))->∀ r,xc x es = some r ->
  (r = none/\(Instr.findAsking kt kx en i).run P w = .ok none w)\/∃ (j:Nat) (v:HV) (u:Value),r = some v/\(Instr.findAsking kt kx en i).run P w = .ok (some (i + j,u)) w/\VRel E v u/\∃ k',es[j]? = some (k',v)/\k' = x/\(∀ y,wF x y es = some (es.set j (x,y)))/\(en[j]?).map (·.val) = some u/\∀ j' < j,∀ e,es[j']? = some e->eqL x.cells e.1.cells = some false:=by
 intro es
 induction es with
 | nil =>
  intro en i hl _ _ r hr;cases en with
  | nil=>simp only [xc,Option.some.injEq] at hr;left;exact ⟨hr.symm,rfl⟩
  | cons=>simp at hl
 | cons e es ih =>
  intro en i hl hv hag r hr;cases en with
  | nil=>simp at hl
  | cons m en =>
   obtain ⟨k,v⟩:=e;obtain ⟨hk1,hv1⟩:=hv 0 _ _ rfl rfl;simp only [xc] at hr;obtain ⟨ha1,ha2⟩:=hag (k,v) (by simp);have hcells:∀ {a b:HV},(tk.agg = true->∃ l,a = .agg l)->(tk.agg = false->zo a = true)->(tk.agg = true->∃ l,b = .agg l)->(tk.agg = false->zo b = true)->a.cells = b.cells->a = b:=by
    intro a b a1 a2 b1 b2 h;cases hagg:tk.agg with
    | true =>
     obtain ⟨l,rfl⟩:=a1 hagg;obtain ⟨m,rfl⟩:=b1 hagg;simpa [HV.cells] using h
    | false =>
     rw [cells_one (a2 hagg),cells_one (b2 hagg)] at h;simpa using h
   split at hr
   ·rename_i he;simp only [Option.some.injEq] at hr;subst hr;have hkk:k = x:=(hcells hk.2.2.1 hk.2.2.2.1 ha1 ha2 (zFm he)).symm;have hkey:=zA4 hk he ha1 ha2;have heq:=(hY.tab _ _ ht).eqok hk.1 x k E kx m.key w true hk.2.1 hkey.2.1 hk.2.2.2.2 hx hk1 (fun h=>by obtain ⟨l,rfl⟩:=hk.2.2.1 h;obtain ⟨l2,h2⟩:=ha1 h;exact ⟨l,l2,rfl,h2⟩) (fun h=>⟨hk.2.2.2.1 h,ha2 h⟩) he;right;refine ⟨0,v,m.val,rfl,?_,hv1,k,rfl,hkk,fun y=>?_,rfl,fun j' hj'=>absurd hj' (by omega)⟩
    ·simp only [Instr.findAsking,Sem.run_bind,heq,Result.andThen_ok,if_true,Sem.run_pure,Nat.add_zero]
    ·rw [hkk] at he;simp only [wF,hkk,he,List.set_cons_zero]
   ·rename_i he;have hkey:=zA4 hk he ha1 ha2;have heq:=(hY.tab _ _ ht).eqok hk.1 x k E kx m.key w false hk.2.1 hkey.2.1 hk.2.2.2.2 hx hk1 (fun h=>by obtain ⟨l,rfl⟩:=hk.2.2.1 h;obtain ⟨l2,h2⟩:=ha1 h;exact ⟨l,l2,rfl,h2⟩) (fun h=>⟨hk.2.2.2.1 h,ha2 h⟩) he;have hstep:(Instr.findAsking kt kx (m :: en) i).run P w = (Instr.findAsking kt kx en (i + 1)).run P w:=by
     simp only [Instr.findAsking,Sem.run_bind,heq,Result.andThen_ok,Bool.false_eq_true,if_false]
    rcases ih en (i + 1) (by simpa using hl) (fun i e m h1 h2=>hv (i + 1) e m (by simpa using h1) (by simpa using h2)) (fun e he=>hag e (by simp [he])) r hr with ⟨h1,h2⟩ | ⟨j,v',u,h1,h2,h3,k',h4,h5,h6,h7,h8⟩
    ·left;exact ⟨h1,by rw [hstep];exact h2⟩
    ·right;refine ⟨j + 1,v',u,h1,by rw [hstep,h2,show i + 1 + j = i + (j + 1) by omega],h3,k',by simpa using h4,h5,fun y=>?_,by simpa using h7,fun j' hj' e' he'=>?_⟩
     ·simp only [wF,he,h6 y,Option.map_some,List.set_cons_succ]
     ·cases j' with
      | zero=>simp only [List.getElem?_cons_zero,Option.some.injEq] at he';rw [<- he'];exact he
      | succ j'=>exact h8 j' (by omega) e' (by simpa using he')
   ·cases hr

theorem Q4 {kind:TypeDesc} {x y:HV} {u v:Value} {b b2:Bool} (hx:VRel E x u) (hy:VRel E y v) (h:Instr.sameNow kind u v = some b) (h2:eqL x.cells y.cells = some b2):b = b2:=by
 unfold Instr.sameNow at h
 split at h
 ·cases hx;cases hy
  split at h
  ·rename_i hk;simp only [Option.some.injEq] at h;subst hk;simp [HV.cells,eqL,eqC] at h2;rw [<- h,<- h2]
  ·cases h
 ·cases hx;cases hy;simp [HV.cells,eqL,eqC] at h2
 ·cases hx;cases hy;simp only [Option.some.injEq] at h;simp [HV.cells,eqL,eqC] at h2;rw [<- h,<- h2]
 ·cases h

theorem zCP {kind:TypeDesc} {x:HV} {kx:Value} (hx:VRel E x kx):∀ (es:List (HV × HV)) (en:List MapEntry) (i:Nat),es.length = en.length ->
  (∀ (i:Nat) (e:HV × HV) (m:MapEntry),es[i]? = some e->en[i]? = some m->VRel E e.1 m.key/\VRel E e.2 m.val)->∀ r q,xc x es = some r->Instr.findNow kind kx en i = some q ->
  (r = none/\q = none)\/∃ (j:Nat) (v:HV) (u:Value),r = some v/\q = some (i + j,u)/\VRel E v u/\(en[j]?).map (·.val) = some u/\∃ k',es[j]? = some (k',v)/\eqL x.cells k'.cells = some true/\∀ j' < j,∀ e,es[j']? = some e->eqL x.cells e.1.cells = some false:=by
 intro es
 induction es with
 | nil =>
  intro en i hl _ r q hr hq;cases en with
  | nil=>simp only [xc,Option.some.injEq] at hr;simp only [Instr.findNow,Option.some.injEq] at hq;left;exact ⟨hr.symm,hq.symm⟩
  | cons=>simp at hl
 | cons e es ih =>
  intro en i hl hv r q hr hq;cases en with
  | nil=>simp at hl
  | cons m en =>
   obtain ⟨k,v⟩:=e;obtain ⟨hk1,hv1⟩:=hv 0 _ _ rfl rfl;simp only [xc] at hr;simp only [Instr.findNow] at hq
   split at hr
   ·rename_i he;simp only [Option.some.injEq] at hr;subst hr
    split at hq
    ·simp only [Option.some.injEq] at hq;right;exact ⟨0,v,m.val,rfl,hq.symm,hv1,rfl,k,rfl,he,fun j' hj'=>absurd hj' (by omega)⟩
    ·rename_i hs;have:=Q4 hx hk1 hs he;cases this
    ·cases hq
   ·rename_i he
    split at hq
    ·rename_i hs;have:=Q4 hx hk1 hs he;cases this
    ·rcases ih en (i + 1) (by simpa using hl) (fun i e m h1 h2=>hv (i + 1) e m (by simpa using h1) (by simpa using h2)) r q hr hq with h | ⟨j,v',u,h1,h2,h3,h4,k',h5,h6,h7⟩
     ·exact .inl h
     ·right;refine ⟨j + 1,v',u,h1,by rw [h2,show i + 1 + j = i + (j + 1) by omega],h3,by simpa using h4,k',by simpa using h5,h6,fun j' hj' e' he'=>?_⟩;cases j' with
      | zero=>simp only [List.getElem?_cons_zero,Option.some.injEq] at he';rw [<- he'];exact he
      | succ j'=>exact h7 j' (by omega) e' (by simpa using he')
    ·cases hq
   ·cases hr

theorem U8 {ti:TI} {x:HV} (h:Yy ti x = true):UH ti x:=by
 unfold Yy at h;simp only [Bool.and_eq_true,beq_iff_eq] at h;obtain ⟨⟨⟨h1,h2⟩,h4⟩,h3⟩:=h;refine ⟨h1,h2,fun ha=>?_,fun ha=>?_,h4⟩
 ·cases x <;> simp [ha] at h3 ⊢
 ·cases x <;> simp [ha] at h3 ⊢ <;> simp_all [zo]

theorem UM (hY:SysOk Y P) {kt:Nat} {tk:TI} (ht:Y.tab kt = some tk) {x:HV} {kx:Value} (hx:VRel E x kx) (hk:UH tk x) (es:List (HV × HV)) (en:List MapEntry) (hl:es.length = en.length)
  (hv:∀ (i:Nat) (e:HV × HV) (m:MapEntry),es[i]? = some e->en[i]? = some m->VRel E e.1 m.key/\VRel E e.2 m.val) (hag:∀ e ∈ es,UH tk e.1) (r:Option HV) (hr:xc x es = some r) :
  (r = none/\(Instr.findKey kt kx en).run P w = .ok none w)\/∃ (j:Nat) (v:HV) (u:Value),r = some v/\(Instr.findKey kt kx en).run P w = .ok (some (j,u)) w/\VRel E v u/\(∀ y,wF x y es = some (es.set j (x,y)))/\(∃ v',es[j]? = some (x,v')):=by
 obtain ⟨d,hd,_⟩:=(hY.tab _ _ ht).agg;have hA:=QQ (P:=P) (w:=w) hY ht hx hk es en 0 hl hv (fun e he=>⟨(hag e he).2.2.1,(hag e he).2.2.2.1⟩) r hr;cases hn:Instr.findNow d kx en 0 with
 | none =>
  have hrun:(Instr.findKey kt kx en).run P w = (Instr.findAsking kt kx en 0).run P w:=by
   unfold Instr.findKey;rw [Sem.run_bind,run_underlying hd,Result.andThen_ok,hn]
  rcases hA with ⟨h1,h2⟩ | ⟨j,v,u,h1,h2,h3,k',h4,h5,h6,h7,_⟩
  ·exact .inl ⟨h1,by rw [hrun];exact h2⟩
  ·exact .inr ⟨j,v,u,h1,by rw [hrun,h2,Nat.zero_add],h3,h6,v,by rw [h4,h5]⟩
 | some q =>
  have hrun:(Instr.findKey kt kx en).run P w = .ok q w:=by
   unfold Instr.findKey;rw [Sem.run_bind,run_underlying hd,Result.andThen_ok,hn];rfl
  rcases zCP hx es en 0 hl hv r q hr hn with ⟨h1,h2⟩ | ⟨j,v,u,h1,h2,h3,h4,k',h5,h6,h7⟩
  ·exact .inl ⟨h1,by rw [hrun,h2]⟩
  ·rcases hA with ⟨h8,_⟩ | ⟨j2,v2,u2,h8,h9,h10,k2,h11,h12,h13,h14,h15⟩
   ·rw [h1] at h8;cases h8
   ·have hjj:j = j2:=by
     have hself:eqL x.cells x.cells = some true:=by
      have:=h6;rw [<- zFm h6] at this;exact this
     rcases Nat.lt_trichotomy j j2 with h | h | h
     ·exfalso;have:=h15 j h (k',v) h5;rw [h6] at this;cases this
     ·exact h
     ·exfalso;have:=h7 j2 h (k2,v2) h11;rw [h12,hself] at this;cases this
    subst hjj;rw [h5] at h11;cases h11;exact .inr ⟨j,v,u,h1,by rw [hrun,h2,Nat.zero_add],h3,h13,v,by rw [h5,h12]⟩

theorem zDz (hY:SysOk Y P) (hR:Rel Y E C w) {S:St} {pl:Option Nat} {t kt el:Nat} {ti tk te:TI} {x i:Operand} {commaOk:Bool} {o:Oper} (ho:o.op = .lookup t x i commaOk) (ht:Y.tab t = some ti) (hs:ti.sh = .map kt el) (htk:Y.tab kt = some tk) (hte:Y.tab el = some te)
  (ρ:Operand->Value) {k:Nat} {ci:HV} (hx:VRel E (.map k) (ρ x)) (hi:VRel E ci (ρ i)) (hA:yV C S k) {es:List (HV × HV)} (hS:S[k]? = some (.map es)) {r:Option HV} (hr:xc ci es = some r) {z:HV} (hz:zeroOf te = some z)
  (hk:Yy tk ci = true) (hes:es.all (fun p=>Yy tk p.1) = true):Sim P Y E C w S S pl o ρ (if commaOk then .tup [r.getD z,.bool r.isSome] else r.getD z):=by
 have hu:=(hY.tab _ _ ht).sh;rw [hs] at hu;have hko:=U8 hk;have hTk:=hY.tab _ _ htk;have hTe:=hY.tab _ _ hte;obtain ⟨ie,zv,hie,_,_,hiz,hzok,hzz,hzs,_⟩:=hTe.info;have hzr:∀ w,(zeroValue el).run P w = .ok zv w:=fun w=>by simp [zeroValue,typeInfo,hie,hiz]
 have hzrel:VRel E z zv:=by
  have hza:=hTe.zagg zv (by simp [hie,hiz]);unfold zeroOf at hz
  split at hz
  ·rename_i ha;obtain ⟨cs,rfl⟩:=hza.2 ha;simp only [Option.some.injEq] at hz;subst hz;have:=Xi (E:=E) hzok;rw [<- hzz] at this;exact .agg _ _ this.1 this.2
  ·rename_i ha;have hone:zv.cells = #[zv]:=by
    cases zv <;> first | rfl | (exact absurd (hza.1 ⟨_,rfl⟩) ha)
   rw [hone] at hzz hzok;simp only [List.map_cons,List.map_nil] at hzz;rw [hzz] at hz;simp only [Option.some.injEq] at hz;subst hz;exact ZE (by simpa using hzok)
 generalize hxv:ρ x = xv at hx;cases hx with
 | map _ q hq =>
  obtain ⟨es0,hC0⟩:=hR.mpC _ _ hq;have hC:C k = some (.map es):=by
   rcases hA _ hC0 with h1 | h1 <;> rw [hS] at h1 <;> cases h1;exact hC0
  obtain ⟨q',en,cl,h1,h2,h3,h4⟩:=hR.maps _ _ hC;rw [hq] at h1;cases h1;have hcheck:=hTk.key hko.1 ci E (ρ i) w en.isEmpty hko.2.1 hi hko.2.2.1 hko.2.2.2.1;have hget:(getObj q).run P w = .ok (.map en cl) w:=by simp [getObj,Sem.run,h2]
  have fin:∀ (v:HV) (u:Value) (b:Bool),VRel E v u->(Instr.lookup t (.map (some q)) (ρ i) commaOk).run P w = .ok (if commaOk then .tuple #[u,.bool b] else u) w ->
    Sim P Y E C w S S pl o ρ (if commaOk then .tup [v,.bool b] else v):=by
   intro v u b hvu hrun;refine Sim.same hR (v:=if commaOk then .tuple #[u,.bool b] else u) ?_ ?_
   ·unfold execOp;simp only [ho,hxv,Sem.run_bind,hrun,Result.andThen_ok,Sem.run_pure]
   ·cases commaOk with
    | false=>exact hvu
    | true=>exact .tup [v,.bool b] #[u,.bool b] rfl (fun i c v' h1 h2=>by
      match i with
      | 0=>simp at h1 h2;subst h1;subst h2;exact hvu
      | 1=>simp at h1 h2;subst h1;subst h2;exact .bool b
      | i + 2=>simp at h1)
  rcases UM (P:=P) (w:=w) hY htk hi hko es en.toList (by simpa using h3) (fun i e m a b=>h4 i e m a (by simpa using b)) (fun e he=>U8 (List.all_eq_true.1 hes e he)) r hr with ⟨h5,h6⟩ | ⟨j,v,u,h5,h6,h7,_⟩
  ·subst h5;have:=fin z zv false hzrel (by
    simp only [Instr.lookup,Sem.run_bind,run_underlying hu,Result.andThen_ok,hget,Sem.run_pure,hcheck,h6,hzr])
   simpa using this
  ·subst h5;have:=fin v u true h7 (by
    simp only [Instr.lookup,Sem.run_bind,run_underlying hu,Result.andThen_ok,hget,Sem.run_pure,hcheck,h6])
   simpa using this

theorem zAo (hY:SysOk Y P) (hR:Rel Y E C w) {S:St} {pl:Option Nat} {t kt el:Nat} {ti tk:TI} {m i x:Operand} {o:Oper} (ho:o.op = .mapUpdate t m i x) (ht:Y.tab t = some ti) (hs:ti.sh = .map kt el) (htk:Y.tab kt = some tk)
  (ρ:Operand->Value) {k:Nat} {ci cx:HV} (hm:VRel E (.map k) (ρ m)) (hi:VRel E ci (ρ i)) (hx:VRel E cx (ρ x)) (hA:yV C S k) {es es':List (HV × HV)} (hS:S[k]? = some (.map es)) (hset:wF ci cx es = some es')
  (hk:Yy tk ci = true) (hes:es.all (fun p=>Yy tk p.1) = true):Sim P Y E C w S (S.set k (.map es')) pl o ρ (.tup []):=by
 have hu:=(hY.tab _ _ ht).sh;rw [hs] at hu;have hko:=U8 hk;have hTk:=hY.tab _ _ htk;generalize hmv:ρ m = mv at hm;cases hm with
 | map _ q hq =>
  obtain ⟨es0,hC0⟩:=hR.mpC _ _ hq;have hC:C k = some (.map es):=by
   rcases hA _ hC0 with h1 | h1 <;> rw [hS] at h1 <;> cases h1;exact hC0
  obtain ⟨q',en,cl,h1,h2,h3,h4⟩:=hR.maps _ _ hC;rw [hq] at h1;cases h1;have hcheck:=hTk.key hko.1 ci E (ρ i) w false hko.2.1 hi hko.2.2.1 hko.2.2.2.1;have hget:(getObj q).run P w = .ok (.map en cl) w:=by simp [getObj,Sem.run,h2]
  have hqlt:q < w.heap.size:=(Array.getElem?_eq_some_iff.1 h2).1;have hsetO:∀ (w1:World) (ob:Obj),w1.heap = w.heap->(setObj q ob).run P w1 = .ok () { w1 with heap:=w1.heap.setIfInBounds q ob }:=fun w1 ob hw=>by simp [setObj,Sem.run,hw,h2]
  -- is there an answer to the search at all?
  have hgs:∃ r,xc ci es = some r:=by
   have:∀ (es es':List (HV × HV)),wF ci cx es = some es'->∃ r,xc ci es = some r:=by
    intro es
    induction es with
    | nil=>intro es' _;exact ⟨_,rfl⟩
    | cons e es ih =>
     intro es' h;obtain ⟨a,b⟩:=e;simp only [wF] at h;simp only [xc]
     split at h
     ·exact ⟨_,rfl⟩
     ·obtain ⟨e2,h5,_⟩:=Option.map_eq_some_iff.1 h;exact ih e2 h5
     ·cases h
   exact this _ _ hset
  obtain ⟨r,hr⟩:=hgs;rcases UM (P:=P) (w:=w) hY htk hi hko es en.toList (by simpa using h3) (fun i e m a b=>h4 i e m a (by simpa using b)) (fun e he=>U8 (List.all_eq_true.1 hes e he)) r hr with ⟨h5,h6⟩ | ⟨j,v,u,h5,h6,h7,h8,v',h9⟩
  ·-- a new key
   subst h5;have hes':es' = es++[(ci,cx)]:=by
    have:∀ (es es':List (HV × HV)),xc ci es = some none->wF ci cx es = some es'->es' = es++[(ci,cx)]:=by
     intro es
     induction es with
     | nil=>intro es' _ h;simp only [wF,Option.some.injEq] at h;rw [<- h];rfl
     | cons e es ih =>
      intro es' hg h;obtain ⟨a,b⟩:=e;simp only [wF] at h;simp only [xc] at hg
      split at h
      ·rename_i he;rw [he] at hg;simp at hg
      ·rename_i he;rw [he] at hg;obtain ⟨e2,h5,h6⟩:=Option.map_eq_some_iff.1 h;rw [<- h6,ih e2 hg h5];rfl
      ·cases h
    exact this _ _ hr hset
   obtain ⟨R1,G1⟩:=hR.putMap (k:=k) (r:=q) (es':=es') (en':=en.push { key:=ρ i,val:=ρ x,born:=cl }) (clock':=cl + 1) (w':={ w with heap:=w.heap.setIfInBounds q (.map (en.push { key:=ρ i,val:=ρ x,born:=cl }) (cl + 1)) })
    (.inr ⟨⟨_,hC⟩,hq⟩) rfl rfl rfl (by simp) (fun b hb hne=>by simp [Array.getElem?_setIfInBounds_ne (Ne.symm hne)]) (by simp [hqlt]) (by rw [hes'];simp [h3]) (fun i' e m' he hm'=>by
     rw [hes'] at he;rcases Nat.lt_or_ge i' es.length with hlt | hge
     ·rw [List.getElem?_append_left hlt] at he;rw [Array.getElem?_push,if_neg (by omega)] at hm';exact h4 i' e m' he hm'
     ·have:i' = es.length:=by
       have:=(List.getElem?_eq_some_iff.1 he).1;simp at this;omega
      subst this;rw [List.getElem?_append_right (Nat.le_refl _)] at he;simp at he;rw [Array.getElem?_push,if_pos h3] at hm';cases hm';subst he;exact ⟨hi,hx⟩)
   refine ⟨undef,_,_,.inr ⟨?_,rfl⟩,.tup [] #[] rfl (by simp),by rw [uK hS (.inl hC)];exact R1,G1,Kept3.set _ hC hS⟩;unfold execOp;simp only [ho,hmv,Instr.mapUpdate,Sem.run_bind,run_underlying hu,Result.andThen_ok,hget,hcheck,h6,hsetO w _ rfl,Sem.run_pure]
  ·-- the key is there
   subst h5;have hes':es' = es.set j (ci,cx):=by
    have:=h8 cx;rw [hset] at this;exact Option.some.inj this
   have hjl:j < en.size:=by rw [<- h3];exact (List.getElem?_eq_some_iff.1 h9).1
   have hold:=h4 j (ci,v') en[j] h9 (by simp [hjl])
   -- whichever key stays
   have hstay:∃ (kk:Value) (d:Nat),(Instr.keyThatStays (((en[j]?).map (·.key)).getD (ρ i)) (ρ i)).run P w = .ok kk { w with drawn:=d }/\VRel E ci kk:=by
    unfold Instr.keyThatStays
    split
    ·exact ⟨ρ i,w.drawn,rfl,hi⟩
    ·simp only [Sem.run_bind,run_choose,Question.forced];simp only [Nat.reduceEqDiff,decide_false,Bool.false_eq_true,if_false,Result.andThen_ok,Sem.run_pure];refine ⟨_,w.drawn + 1,rfl,?_⟩
     split
     ·exact hi
     ·simp only [Array.getElem?_eq_getElem hjl,Option.map_some,Option.getD_some];exact hold.1
   obtain ⟨kk,d,hst,hkk⟩:=hstay;have hRd:Rel Y E C { w with drawn:=d }:=hR.drew rfl;obtain ⟨R1,G1⟩:=hRd.putMap (k:=k) (r:=q) (es':=es') (en':=en.modify j fun e=>{ e with key:=kk,val:=ρ x }) (clock':=cl) (w':={ { w with drawn:=d } with heap:=w.heap.setIfInBounds q (.map (en.modify j fun e=>{ e with key:=kk,val:=ρ x }) cl) })
    (.inr ⟨⟨_,hC⟩,hq⟩) rfl rfl rfl (by simp) (fun b hb hne=>by simp [Array.getElem?_setIfInBounds_ne (Ne.symm hne)]) (by simp [hqlt]) (by rw [hes'];simp [h3]) (fun i' e m' he hm'=>by
     rw [hes'] at he
     by_cases hj:i' = j
     ·subst hj;rw [List.getElem?_set_self (by omega)] at he;cases he;rw [Array.getElem?_modify,if_pos rfl] at hm';simp [hjl] at hm';subst hm';exact ⟨hkk,hx⟩
     ·rw [List.getElem?_set_ne (Ne.symm hj)] at he;rw [Array.getElem?_modify,if_neg (Ne.symm hj)] at hm';exact h4 i' e m' he hm')
   refine ⟨undef,_,_,.inr ⟨?_,rfl⟩,.tup [] #[] rfl (by simp),by rw [uK hS (.inl hC)];exact R1,G1.undrew rfl rfl rfl rfl,Kept3.set _ hC hS⟩;unfold execOp;simp only [ho,hmv,Instr.mapUpdate,Sem.run_bind,run_underlying hu,Result.andThen_ok,hget,hcheck,h6,hst,hsetO { w with drawn:=d } _ rfl,Sem.run_pure]

end
end Go.Proofs.XVai
end
section
namespace Go.Proofs.XVai
open Go

structure Upd (C:Nat->Option Ob) (S:St) (C':Nat->Option Ob) (S':St) (ex:Option Nat):Prop where
 u1:∀ (k:Nat),S'[k]? = S[k]?->C' k = C k
 u2:∀ (k:Nat),S'[k]?≠S[k]?->C' k = S'[k]?\/(S'[k]? = some .dummy/\C' k = none)
 u3:Kept3 C S S' ex

theorem Upd.refl (C:Nat->Option Ob) (S:St) (ex:Option Nat):Upd C S C S ex:=⟨fun _ _=>rfl,fun _ h=>absurd rfl h,Kept3.same _ _ _⟩
theorem Upd.updC {C:Nat->Option Ob} {S S':St} {ex:Option Nat} (h:Kept3 C S S' ex):Upd C S (updC C S S') S' ex:=by
 refine ⟨fun k hk=>?_,fun k hk=>?_,h⟩ <;> simp only [Go.Proofs.XVai.updC]
 ·rw [if_pos hk]
 ·rw [if_neg hk];exact .inl rfl
theorem Upd.weaken {C C':Nat->Option Ob} {S S':St} (h:Upd C S C' S' none) (ex:Option Nat):Upd C S C' S' ex:=⟨h.u1,h.u2,fun k hk hne _=>h.u3 k hk hne (by simp)⟩
theorem Upd.trans {C C1 C2:Nat->Option Ob} {S S1 S2:St} (h:Upd C S C1 S1 none) (k:Upd C1 S1 C2 S2 none) (hC:∀ k,S.length<=k->C k = none) (hd:∀ k,C k≠some .dummy):Upd C S C2 S2 none:=by
 refine ⟨fun j hj=>?_,fun j hj=>?_,fun j hl hj hp=>?_⟩
 ·by_cases he:S1[j]? = S[j]?
  ·rw [k.u1 j (hj.trans he.symm),h.u1 j he]
  ·have h2:S2[j]?≠S1[j]?:=fun e=>he (e.symm.trans hj);rcases k.u2 j h2 with h3 | ⟨h3,h4⟩
   ·rw [h3,hj]
    by_cases hl:j < S.length
    ·exact (h.u3 j hl he (by simp)).1.symm
    ·rw [hC j (by omega)];exact List.getElem?_eq_none (by omega)
   ·by_cases hl:j < S.length
    ·have h5:=(h.u3 j hl he (by simp)).1;rw [<- hj,h3] at h5;exact absurd h5 (hd j)
    ·rw [h4,hC j (by omega)]
 ·by_cases he:S2[j]? = S1[j]?
  ·rw [k.u1 j he,he];exact h.u2 j (fun e=>hj (he.trans e))
  ·exact k.u2 j he
 ·by_cases he:S1[j]? = S[j]?
  ·have hl1:j < S1.length:=by
    rw [List.getElem?_eq_getElem hl] at he;exact (List.getElem?_eq_some_iff.1 he).1
   have:=k.u3 j hl1 (fun e=>hj (e.trans he)) (by simp);rw [h.u1 j he,he] at this;exact this
  ·exact h.u3 j hl he (by simp)
theorem Upd.agree {C C':Nat->Option Ob} {S S':St} {ex:Option Nat} (h:Upd C S C' S' ex) (hA:∀ k,yV C S k):∀ k,yV C' S' k:=by
 intro k o ho
 by_cases he:S'[k]? = S[k]?
 ·rw [h.u1 k he] at ho;rcases hA k o ho with h2 | h2
  ·exact .inl (he.trans h2)
  ·exact .inr (he.trans h2)
 ·rcases h.u2 k he with h2 | ⟨_,h2⟩
  ·left;rw [<- h2];exact ho
  ·rw [h2] at ho;cases ho
theorem Upd.beyond {C C':Nat->Option Ob} {S S':St} {ex:Option Nat} (h:Upd C S C' S' ex) (hl:S.length<=S'.length) (hC:∀ k,S.length<=k->C k = none):∀ k,S'.length<=k->C' k = none:=by
 intro k hk;have h1:S'[k]? = none:=List.getElem?_eq_none hk;have h2:S[k]? = none:=List.getElem?_eq_none (by omega);rw [h.u1 k (by rw [h1,h2])];exact hC k (by omega)

structure CallSim (P:Program) (Y:Sys) (call:Nat->List HV->St->Option (HV × St)):Prop where
 sim:∀ (g:Nat) (args:List HV) (S:St) (v:HV) (S':St) (E:Env) (C:Nat->Option Ob) (w:World) (cargs:Array Value),call g args S = some (v,S')->Rel Y E C w->(∀ k,yV C S k)->(∀ k,S.length<=k->C k = none) ->
  args.length = cargs.size->(∀ (i:Nat) (c:HV) (u:Value),args[i]? = some c->cargs[i]? = some u->VRel E c u) ->
  Calls P g cargs w (fun e w'=>∃ cv E' C',e = .returned cv/\VRel E' v cv/\Upd C S C' S' none/\Rel Y E' C' w'/\Go1 E w E' w')
 len:∀ (g:Nat) (args:List HV) (S:St) (v:HV) (S':St),call g args S = some (v,S')->S.length<=S'.length
 fn:∀ (g:Nat) (args:List HV) (S:St) (v:HV) (S':St),call g args S = some (v,S')->∃ fn,P.funcs[g]? = some fn/\fn.body.isSome = true/\(fn.name == "runtime.NumGoroutine") = false

def OpW (P:Program) (Y:Sys) (E:Env) (C:Nat->Option Ob) (w:World) (S S':St) (pl:Option Nat) (o:Oper) (a:Act) (hv:HV):Prop :=
 ∀ (K:Act->World->Prop) (Q:Exit->Act->World->Prop),(∀ v w' E' C',VRel E' hv v->Upd C S C' S' pl->Rel Y E' C' w'->Go1 E w E' w'->K (a.put o.dst v) w')->o.wp P a w K Q

theorem Sim.opW {P:Program} {Y:Sys} {E:Env} {C:Nat->Option Ob} {w:World} {S S':St} {pl:Option Nat} {o:Oper} {a:Act} {hv:HV} (h:Sim P Y E C w S S' pl o a.eval hv):OpW P Y E C w S S' pl o a hv:=by
 intro K Q hK;obtain ⟨v,w',E',h1,h2,h3,h4,h5⟩:=h;unfold Oper.wp;rcases h1 with h1 | ⟨h1,rfl⟩
 ·rw [h1];exact hK _ _ _ _ h2 (Upd.updC h5) h3 h4
 ·rw [h1];exact hK _ _ _ _ h2 (Upd.updC h5) h3 h4

theorem Y2 {α β:Type} {f:α->St->Option (β × St)} (hf:∀ x S y S',f x S = some (y,S')->S'.length = S.length):∀ (xs:List α) (S S':St) (ys:List β),mapMS f xs S = some (ys,S')->S'.length = S.length:=by
 intro xs
 induction xs with
 | nil=>intro S S' ys h;simp only [mapMS,Option.some.injEq,Prod.mk.injEq] at h;rw [h.2]
 | cons x xs ih =>
  intro S S' ys h;simp only [mapMS] at h
  split at h
  ·rename_i h1
   split at h
   ·rename_i h2;simp only [Option.some.injEq,Prod.mk.injEq] at h;rw [<- h.2,ih _ _ _ h2,hf _ _ _ _ h1]
   ·cases h
  ·cases h
theorem zEl (n0:Nat):∀ (d:Nat) (x:HV) (S:St) (y:HV) (S':St),frzC n0 d x S = some (y,S')->S'.length = S.length:=by
 intro d
 induction d with
 | zero =>
  intro x S y S' h;cases x <;> simp only [frzC,Option.some.injEq,Prod.mk.injEq] at h
  case sl =>
   split at h
   ·simp only [Option.some.injEq,Prod.mk.injEq] at h;rw [h.2]
   ·cases h
  all_goals rw [h.2]
 | succ d ih =>
  intro x S y S' h;cases x <;> simp only [frzC,Option.some.injEq,Prod.mk.injEq] at h
  case sl =>
   split at h
   ·simp only [Option.some.injEq,Prod.mk.injEq] at h;rw [h.2]
   ·split at h
    ·split at h
     ·split at h
      ·rename_i hm;have h1:=Y2 (fun x S y S' h=>Y2 ih x S S' y h) _ _ _ _ hm
       split at h
       ·simp only [Option.some.injEq,Prod.mk.injEq] at h;rw [<- h.2,<- h1]
        split <;> simp
       ·cases h
      ·cases h
     ·cases h
    ·cases h
  all_goals rw [h.2]
section
variable {P:Program} {Y:Sys} {E:Env} {C:Nat->Option Ob} {w:World}

theorem zFc {call:Nat->List HV->St->Option (HV × St)} (hcall:CallSim P Y call) (hR:Rel Y E C w) {S S':St} (hA:∀ k,yV C S k) (hCS:∀ k,S.length<=k->C k = none) {T:Tm} {f:Operand} {args:Array Operand} {ats:Array TypeId} {o:Oper} {a:Act}
  (ho:o.op = .call { callee:=.value f,args:=args,argTypes:=ats }) {g:Nat} {caps:List HV} (hf:ev T f = .fn g caps) (hxf:VRel E (ev T f) (a.eval f)) (hx:∀ x ∈ args.toList,VRel E (ev T x) (a.eval x)) {hv:HV}
  (hc:(if Y.byref g then call g (args.toList.map (ev T)++caps) S else match mapMS (frzV 0) (args.toList.map (ev T)) S with
   | some (args',S1)=>call g (args'++caps) S1
   | none=>none) = some (hv,S')) (pl:Option Nat):OpW P Y E C w S S' pl o a hv:=by
 intro K Q hK;rw [hf] at hxf;generalize hfv:a.eval f = fv at hxf;cases hxf with
 | fn _ _ vs hl hcaps =>
  have henter:∀ fn,P.funcs[g]? = some fn->fn.body.isSome = true->(fn.name == "runtime.NumGoroutine") = false->(execOp a.eval o).run P w = .ok (.enter g (args.map a.eval++vs)) w:=by
   intro fn h1 h2 h3;unfold execOp;simp only [ho,resolve,hfv,Deferred.ofValue,Sem.run_bind,Sem.run_pure,Result.andThen_ok,invoke,callFunc,run_program,h1,h3,Bool.false_eq_true,if_false];have:fn.body.isNone = false:=by cases hb:fn.body <;> simp_all
   simp [this]
  have fin:∀ (args':List HV) (S1:St) (E1:Env) (C1:Nat->Option Ob),Zl VRel E1 args' (args.toList.map a.eval)->Rel Y E1 C1 w->Go1 E w E1 w->Upd C S C1 S1 none->S1.length = S.length->call g (args'++caps) S1 = some (hv,S')->o.wp P a w K Q:=by
   intro args' S1 E1 C1 hr R1 G1 U1 hlen hcc;obtain ⟨fn,h1,h2,h3⟩:=hcall.fn _ _ _ _ _ hcc;unfold Oper.wp;rw [henter fn h1 h2 h3];simp only [Oper.upon];have hcs:=hcall.sim g (args'++caps) S1 hv S' E1 C1 w (args.map a.eval++vs) hcc R1 (U1.agree hA) (U1.beyond (by omega) hCS) (by have:=hr.1;simp at this;simp [this,hl]) (fun i c u hi hu=>by
    have hlen':=hr.1;simp only [List.length_map,Array.length_toList] at hlen'
    by_cases hlt:i < args'.length
    ·rw [List.getElem?_append_left hlt] at hi;rw [Array.getElem?_append_left (by simp;omega)] at hu;exact hr.2 i c u hi (by simpa using hu)
    ·rw [List.getElem?_append_right (by omega)] at hi;rw [Array.getElem?_append_right (by simp;omega)] at hu;simp only [Array.size_map] at hu;exact (hcaps _ c u hi (by rw [hlen'];exact hu)).mono G1.le)
   refine Calls.mono hcs fun e w' he=>?_;obtain ⟨cv,E',C',rfl,hv1,U2,R2,G2⟩:=he;exact hK cv w' E' C' hv1 ((U1.trans U2 hCS hR.nodummy).weaken pl) R2 (G1.trans G2)
  have hbase:Zl VRel E (args.toList.map (ev T)) (args.toList.map a.eval):=⟨by simp,fun i c u hi hu=>by
   simp only [List.getElem?_map] at hi hu;cases h:args.toList[i]? with
   | none=>simp [h] at hi
   | some x =>
    simp only [h,Option.map_some,Option.some.injEq] at hi hu;subst hi;subst hu;exact hx x (List.mem_of_getElem? h)⟩
  split at hc
  ·exact fin _ S E C hbase hR (Go1.refl _ _) (Upd.refl _ _ _) rfl hc
  ·split at hc
   ·rename_i args' S1 hm;obtain ⟨E1,r1,R1,G1,F1,K1⟩:=FStep.list (fun E E' x v h hx=>hx.mono h) (QV (Y:=Y) (w:=w) 0) _ _ _ _ E C _ hm hR hA hbase;exact fin args' S1 E1 _ r1 R1 G1 (Upd.updC (Kept3.flag K1)) F1.1 hc
   ·cases hc

end
end Go.Proofs.XVai
end
section
namespace Go.Proofs.XVai
open Go

section
variable {P:Program} {Y:Sys} {E:Env} {C:Nat->Option Ob} {w:World}

theorem AgreeFor.all {S S':St} {o:Oper} {T:Tm} {slot:Option Nat} (h:AgreeFor C S o T slot S') (he:isE o = true):∀ k,yV C S k :=
 h.elim id (fun ⟨_,_,h1,_⟩=>by rw [he] at h1;cases h1)

theorem zC9 {vs:List HV} {us:Array Value} (hl:vs.length = us.size) {i:Nat} {c:HV} (h:vs[i]? = some c):∃ u,us[i]? = some u/\(Instr.extract (.tuple us) i).run P w = .ok u w:=by
 have hi:i < us.size:=by rw [<- hl];exact (List.getElem?_eq_some_iff.1 h).1
 exact ⟨us[i],by simp [hi],by simp [Instr.extract,hi]⟩

theorem zEO {x:Operand} (h:zAk x = true):x = .const (.slice none 0 0):=by
 unfold zAk at h
 split at h
 ·rfl
 ·cases h

set_option maxHeartbeats 1000000 in
theorem zBZ {fid:Nat} {call:Nat->List HV->St->Option (HV × St)} (hY:SysOk Y P) (hcall:CallSim P Y call) {pl:Option Nat} {o:Oper} {T:Tm} {S S':St} {hv:HV} {a:Act} (hc:cop Y fid call pl o T S = some (hv,S'))
  (hR:Rel Y E C w) (hA:AgreeFor C S o T pl S') (hCS:isE o = true->∀ k,S.length<=k->C k = none) (hN:X4 C S pl) (hx:∀ x ∈ o.op.operands.toList,VRel E (ev T x) (a.eval x)):OpW P Y E C w S S' pl o a hv:=by
 obtain ⟨dst,op,ty,pos,after,guard⟩:=o;have hpr:(Y.prom fid&&pl.isNone) = true->pl = none:=fun h=>by
  simp only [Bool.and_eq_true,Option.isNone_iff_eq_none] at h;exact h.2
 cases op with
 | move x =>
  simp only [cop,Option.some.injEq] at hc
  split at hc
  ·rename_i hb;simp only [Bool.and_eq_true,Option.isNone_iff_eq_none] at hb;obtain ⟨hn,hm,rfl⟩:=hb;obtain rfl:=zEO hn;simp only [Prod.mk.injEq] at hc;obtain ⟨rfl,rfl⟩:=hc;exact (zBJ hR hN _ a.eval rfl).opW
  ·simp only [Prod.mk.injEq] at hc;obtain ⟨rfl,rfl⟩:=hc;exact (Sim.same hR (v:=a.eval x) rfl (hx x (by simp [Op.operands]))).opW
 | assign x =>
  simp only [cop,Option.some.injEq] at hc
  split at hc
  ·rename_i hb;simp only [Bool.and_eq_true,Option.isNone_iff_eq_none] at hb;obtain ⟨hn,hm,rfl⟩:=hb;obtain rfl:=zEO hn;simp only [Prod.mk.injEq] at hc;obtain ⟨rfl,rfl⟩:=hc;exact (zBJ hR hN _ a.eval rfl).opW
  ·simp only [Prod.mk.injEq] at hc;obtain ⟨rfl,rfl⟩:=hc;exact (Sim.same hR (v:=a.eval x) rfl (hx x (by simp [Op.operands]))).opW
 | pick c x y =>
  simp only [cop] at hc;have h0:=hx c (by simp [Op.operands]);have h1:=hx x (by simp [Op.operands]);have h2:=hx y (by simp [Op.operands])
  split at hc
  ·rename_i he;simp only [Option.some.injEq,Prod.mk.injEq] at hc;obtain ⟨rfl,rfl⟩:=hc;rw [he] at h0;generalize hcv:a.eval c = cv at h0;cases h0;exact (Sim.same hR (v:=a.eval x) (by unfold execOp;simp [hcv,asBool]) h1).opW
  ·rename_i he;simp only [Option.some.injEq,Prod.mk.injEq] at hc;obtain ⟨rfl,rfl⟩:=hc;rw [he] at h0;generalize hcv:a.eval c = cv at h0;cases h0;exact (Sim.same hR (v:=a.eval y) (by unfold execOp;simp [hcv,asBool]) h2).opW
  ·cases hc
 | alloc t =>
  simp only [cop] at hc
  split at hc
  ·rename_i ti ht;simp only [Option.some.injEq,Prod.mk.injEq] at hc;obtain ⟨rfl,rfl⟩:=hc;exact (zE5 hY hR hN ht rfl a.eval).opW
  ·cases hc
 | box t x =>
  simp only [cop,Option.some.injEq,Prod.mk.injEq] at hc;obtain ⟨rfl,rfl⟩:=hc;exact (zG8 hR hN rfl a.eval (hx x (by simp [Op.operands]))).opW
 | build t parts =>
  simp only [cop] at hc
  split at hc
  ·rename_i ti ht;generalize hz:zrow (Y.muta fid) (Y.prom fid&&pl.isNone) ti.zero S = q at hc;obtain ⟨row,S1⟩:=q;simp only at hc
   split at hc
   ·rename_i hb
    split at hc
    ·rename_i row' hf;simp only [Option.some.injEq,Prod.mk.injEq] at hc;obtain ⟨rfl,rfl⟩:=hc;exact (zE6 hY (Y.muta fid) (pr:=Y.prom fid&&pl.isNone) ht rfl a.eval hR (fun h=>by rw [hpr h] at hN;exact hN) (fun p hp=>hx p.2 (by simp only [Op.operands,List.mem_map];exact ⟨p,hp,rfl⟩)) hz hb hf).opW
    ·cases hc
   ·cases hc
  ·cases hc
 | buildSlice t len parts =>
  simp only [cop] at hc
  split at hc
  ·rename_i ti ht
   split at hc
   ·rename_i el hs
    split at hc
    ·rename_i te hte
     split at hc
     ·rename_i hl0;subst hl0
      split at hc
      ·rename_i he;simp only [Option.some.injEq] at hc
       split at hc
       ·rename_i hb;simp only [Bool.and_eq_true,Option.isNone_iff_eq_none] at hb;obtain ⟨hm,rfl⟩:=hb;simp only [Prod.mk.injEq] at hc;obtain ⟨rfl,rfl⟩:=hc;exact (zBx hY hR hN _ ht hs hte he rfl a.eval).opW
       ·simp only [Prod.mk.injEq] at hc;obtain ⟨rfl,rfl⟩:=hc;exact (Q9 hY hR ht hs hte he rfl a.eval pl).opW
      ·cases hc
     ·rename_i hl0
      split at hc
      ·rename_i hlim
       split at hc
       ·rename_i rows hf
        split at hc
        ·rename_i hb;simp only [Bool.and_eq_true,Option.isNone_iff_eq_none] at hb;obtain ⟨hm2,rfl⟩:=hb
         split at hc
         ·simp only [Option.some.injEq,Prod.mk.injEq] at hc;obtain ⟨rfl,rfl⟩:=hc;exact (zBw hY hR hN _ ht hs hte rfl a.eval (fun p hp=>hx p.2 (by simp only [Op.operands,List.mem_map];exact ⟨p,hp,rfl⟩)) hl0 hlim hf).opW
         ·cases hc
        split at hc
        ·rename_i rows' S1 hm
         split at hc
         ·rename_i hp;simp only [Option.some.injEq,Prod.mk.injEq] at hc;obtain ⟨rfl,rfl⟩:=hc;exact (Q8 hY hR ht hs hte rfl a.eval hA (fun p hp=>hx p.2 (by simp only [Op.operands,List.mem_map];exact ⟨p,hp,rfl⟩)) hl0 hlim hf hm hp).opW
         ·cases hc
        ·cases hc
       ·cases hc
      ·cases hc
    ·cases hc
   ·cases hc
  ·cases hc
 | load t x =>
  simp only [cop,Option.map_eq_some_iff,Prod.mk.injEq] at hc;obtain ⟨c,hl,rfl,rfl⟩:=hc;have hrd:=hA.at
  simp only [reads] at hrd;obtain ⟨u,h1,h2⟩:=zCy (P:=P) hY hR (hx x (by simp [Op.operands])) (fun k hk=>hrd k (by cases h:ev T x <;> simp_all [zDg])) hl;exact (Sim.same hR (v:=u) (by unfold execOp;simp [h1]) h2).opW
 | store t x v =>
  simp only [cop,Option.map_eq_some_iff,Prod.mk.injEq] at hc;obtain ⟨S1,hs,rfl,rfl⟩:=hc;exact (zE8 hY hR rfl a.eval (hA.all rfl) (hx x (by simp [Op.operands])) (hx v (by simp [Op.operands])) hs).opW
 | nilCheck x =>
  simp only [cop] at hc;have h0:=hx x (by simp [Op.operands])
  split at hc
  all_goals first
  | (rename_i he
     simp only [Option.some.injEq,Prod.mk.injEq] at hc;obtain ⟨rfl,rfl⟩:=hc;rw [he] at h0;generalize hv:a.eval x = v at h0;have hv2:∃ b,v = .pointer (some b):=by cases h0 <;> exact ⟨_,rfl⟩
     obtain ⟨b,rfl⟩:=hv2;exact (Sim.same hR (v:=.pointer (some b)) (by unfold execOp;simp [hv]) h0).opW)
  | (cases hc)
 | binOp op t x y yt =>
  have h1:=hx x (by simp [Op.operands]);have h2:=hx y (by simp [Op.operands]);simp only [cop] at hc
  split at hc
  ·rename_i aS bs e1 e2;rw [e1] at h1;rw [e2] at h2
   split at hc
   ·rename_i ti ht
    split at hc
    ·rename_i hq;simp only [Bool.and_eq_true,beq_iff_eq] at hq;obtain ⟨⟨⟨⟨hq1,hq2⟩,hq3⟩,hq4⟩,hq5⟩:=hq
     split at hc
     ·rename_i b hb;simp only [Option.some.injEq,Prod.mk.injEq] at hc;obtain ⟨rfl,rfl⟩:=hc;exact ((zGT (S:=S) hY hR (o:=⟨dst,.binOp .eql t x y yt,ty,pos,after,guard⟩) rfl a.eval h1 h2 ht hq1 hq2 hq3 hq4 hq5 hb).1 rfl).opW
     ·rename_i b hb;simp only [Option.some.injEq,Prod.mk.injEq] at hc;obtain ⟨rfl,rfl⟩:=hc;exact ((zGT (S:=S) hY hR (o:=⟨dst,.binOp .neq t x y yt,ty,pos,after,guard⟩) rfl a.eval h1 h2 ht hq1 hq2 hq3 hq4 hq5 hb).2 rfl).opW
     ·cases hc
    ·cases hc
   ·cases hc
  ·rename_i p q e1 e2;rw [e1] at h1;rw [e2] at h2
   split at hc
   ·split at hc
    ·rename_i ht;simp only [Option.some.injEq,Prod.mk.injEq] at hc;obtain ⟨rfl,rfl⟩:=hc;exact ((Q7 (S:=S) hY hR (o:=⟨dst,.binOp .eql t x y yt,ty,pos,after,guard⟩) rfl a.eval h1 h2 ht rfl).1 rfl).opW
    ·cases hc
   ·split at hc
    ·rename_i ht;simp only [Option.some.injEq,Prod.mk.injEq] at hc;obtain ⟨rfl,rfl⟩:=hc;exact ((Q7 (S:=S) hY hR (o:=⟨dst,.binOp .neq t x y yt,ty,pos,after,guard⟩) rfl a.eval h1 h2 ht rfl).2 rfl).opW
    ·cases hc
   ·cases hc
  ·rename_i e1 e2;rw [e1] at h1;rw [e2] at h2
   split at hc
   ·rename_i ht
    split at hc
    ·simp only [Option.some.injEq,Prod.mk.injEq] at hc;obtain ⟨rfl,rfl⟩:=hc;exact ((Y8 (S:=S) hY hR (o:=⟨dst,.binOp .eql t x y yt,ty,pos,after,guard⟩) rfl a.eval h1 h2 ht rfl (b:=true) (.inl ⟨rfl,rfl⟩)).1 rfl).opW
    ·simp only [Option.some.injEq,Prod.mk.injEq] at hc;obtain ⟨rfl,rfl⟩:=hc;exact ((Y8 (S:=S) hY hR (o:=⟨dst,.binOp .neq t x y yt,ty,pos,after,guard⟩) rfl a.eval h1 h2 ht rfl (b:=true) (.inl ⟨rfl,rfl⟩)).2 rfl).opW
    ·cases hc
   ·cases hc
  ·rename_i k n i q e1 e2;rw [e1] at h1;rw [e2] at h2
   split at hc
   ·rename_i ht
    split at hc
    ·simp only [Option.some.injEq,Prod.mk.injEq] at hc;obtain ⟨rfl,rfl⟩:=hc;exact ((Y8 (S:=S) hY hR (o:=⟨dst,.binOp .eql t x y yt,ty,pos,after,guard⟩) rfl a.eval h1 h2 ht rfl (b:=false) (.inr ⟨⟨_,_,_,_,rfl⟩,rfl⟩)).1 rfl).opW
    ·simp only [Option.some.injEq,Prod.mk.injEq] at hc;obtain ⟨rfl,rfl⟩:=hc;exact ((Y8 (S:=S) hY hR (o:=⟨dst,.binOp .neq t x y yt,ty,pos,after,guard⟩) rfl a.eval h1 h2 ht rfl (b:=false) (.inr ⟨⟨_,_,_,_,rfl⟩,rfl⟩)).2 rfl).opW
    ·cases hc
   ·cases hc
  ·simp only [Option.map_eq_some_iff,Prod.mk.injEq] at hc;obtain ⟨c,hb,rfl,rfl⟩:=hc;exact (Uw hR rfl a.eval h1 h2 hb).opW
 | unOp op t x =>
  have h1:=hx x (by simp [Op.operands]);simp only [cop] at hc
  split at hc
  ·rename_i b e1;rw [e1] at h1;simp only [Option.some.injEq,Prod.mk.injEq] at hc;obtain ⟨rfl,rfl⟩:=hc;generalize hv:a.eval x = v at h1;cases h1;exact (Sim.same hR (v:=.bool !b) (by unfold execOp;simp [hv,Op.unary]) (.bool _)).opW
  ·rename_i k n e1;rw [e1] at h1;simp only [Option.some.injEq,Prod.mk.injEq] at hc;obtain ⟨rfl,rfl⟩:=hc;generalize hv:a.eval x = v at h1;cases h1;exact (Sim.same hR (v:=.int k (k.wrap (0 - n))) (by unfold execOp;simp only [hv,Op.unary,Op.intArith,Sem.run_bind,Sem.run_pure,Result.andThen_ok]) (.int _ _)).opW
  ·cases hc
 | convert src dst' x =>
  have h1:=hx x (by simp [Op.operands]);simp only [cop,Option.map_eq_some_iff,Prod.mk.injEq] at hc;obtain ⟨c,hcc,rfl,rfl⟩:=hc;unfold zCI at hcc
  split at hcc
  ·rename_i si ti hts ht
   split at hcc
   ·rename_i k0 k k' n hs0 hs e1;rw [e1] at h1;simp only [Option.some.injEq] at hcc;subst hcc;have hu:=(hY.tab _ _ ht).sh;rw [hs] at hu;have hu0:=(hY.tab _ _ hts).sh;rw [hs0] at hu0;generalize hv:a.eval x = v at h1;cases h1;refine (Sim.same hR (v:=.int k (k.wrap n)) ?_ (.int _ _)).opW;unfold execOp;simp only [hv,convert,Sem.run_bind,run_underlying hu0,run_underlying hu,Result.andThen_ok];rfl
   ·cases hcc
  ·cases hcc
 | makeFunc f first captured =>
  simp only [cop] at hc
  split at hc
  ·rename_i g
   split at hc
   ·rename_i hf;simp only [Option.some.injEq,Prod.mk.injEq] at hc;obtain ⟨rfl,rfl⟩:=hc;have hf':first = #[]:=by simpa using hf
    subst hf';refine (Sim.same hR (v:=.func (.func g) #[] (captured.map a.eval)) (by unfold execOp;simp [Instr.makeFunc]) (.fn g _ _ (by simp) fun i c v h1 h2=>?_)).opW;simp only [List.getElem?_map,Array.getElem?_map,Array.getElem?_toList] at h1 h2;cases h:captured[i]? with
    | none=>simp [h] at h1
    | some x =>
     simp only [h,Option.map_some,Option.some.injEq] at h1 h2;subst h1;subst h2;exact hx x (by simp [Op.operands,Array.mem_of_getElem? h])
   ·cases hc
  ·cases hc
 | makeMap t r =>
  cases r with
  | none =>
   simp only [cop,Option.some.injEq,Prod.mk.injEq] at hc;obtain ⟨rfl,rfl⟩:=hc;exact (zDD hR hN rfl a.eval).opW
  | some r=>simp [cop] at hc
 | makeSlice t l cc =>
  have h1:=hx l (by simp [Op.operands]);have h2:=hx cc (by simp [Op.operands]);simp only [cop] at hc
  split at hc
  ·rename_i ti ht
   split at hc
   ·rename_i el kd n kd2 m hs e1 e2;rw [e1] at h1;rw [e2] at h2
    split at hc
    ·rename_i te k hte hk
     split at hc
     ·rename_i hcc;obtain ⟨rfl,hlim⟩:=hcc;generalize hz:zrows (Y.muta fid) (Y.prom fid&&pl.isNone) te.zero k S = q at hc;obtain ⟨rows,S1⟩:=q;simp only [Option.some.injEq,Prod.mk.injEq] at hc;obtain ⟨rfl,rfl⟩:=hc;exact (zAn (mu:=Y.muta fid 1000) hY hR (Y.muta fid) hN hpr rfl ht hs hte a.eval h1 h2 hk hlim hz).opW
     ·cases hc
    ·cases hc
   ·cases hc
  ·cases hc
 | slice t x lo hi mx =>
  cases mx with
  | none =>
   simp only [cop] at hc;exact (zE7 hY hR rfl a.eval hA (hx x (by simp [Op.operands])) (fun y hy=>hx y (by cases lo <;> simp_all [Op.operands])) (fun y hy=>hx y (by cases hi <;> simp_all [Op.operands])) hc).opW
  | some r=>simp [cop] at hc
 | fieldAddr t x f =>
  simp only [cop,Option.map_eq_some_iff,Prod.mk.injEq] at hc;obtain ⟨c,hcc,rfl,rfl⟩:=hc;exact (zAl hY hR rfl a.eval (hx x (by simp [Op.operands])) hcc).opW
 | indexAddr t x i =>
  simp only [cop,Option.map_eq_some_iff,Prod.mk.injEq] at hc;obtain ⟨c,hcc,rfl,rfl⟩:=hc;have hrd:=hA.at
  simp only [reads] at hrd;exact (zAm hY hR rfl a.eval (fun k hk=>hrd k (by cases h:ev T x <;> simp_all [zDg])) (hx x (by simp [Op.operands])) (hx i (by simp [Op.operands])) hcc).opW
 | index t x i =>
  have h1:=hx x (by simp [Op.operands]);have h2:=hx i (by simp [Op.operands]);simp only [cop] at hc
  split at hc
  ·rename_i ti ht
   split at hc
   ·rename_i s k n hs e1 e2;rw [e1] at h1;rw [e2] at h2
    split at hc
    ·rename_i j hj
     split at hc
     ·rename_i b hb;simp only [Option.some.injEq,Prod.mk.injEq] at hc;obtain ⟨rfl,rfl⟩:=hc;have hu:=(hY.tab _ _ ht).sh;rw [hs] at hu;generalize hv:a.eval x = v at h1;generalize hv2:a.eval i = v2 at h2;cases h1;cases h2;obtain ⟨h0,hjj⟩:=uu hj;refine (Sim.same hR (v:=.int .u8 b.toNat) ?_ (.int _ _)).opW;unfold execOp;simp only [hv,hv2,Instr.index,Sem.run_bind,asIntOf,Sem.run_pure,Result.andThen_ok,run_underlying hu];simp [h0,hjj,hb]
     ·cases hc
    ·cases hc
   ·cases hc
  ·cases hc
 | lookup t x i commaOk =>
  have h1:=hx x (by simp [Op.operands]);have h2:=hx i (by simp [Op.operands]);have hrd:=hA.at
  simp only [reads] at hrd;simp only [cop] at hc
  split at hc
  ·rename_i ti ht
   split at hc
   ·rename_i kt el k hs e1;rw [e1] at h1
    split at hc
    ·rename_i es tk te hS htk hte
     split at hc
     ·rename_i r z hr hz
      split at hc
      ·rename_i hk;simp only [Bool.and_eq_true] at hk;simp only [Option.some.injEq,Prod.mk.injEq] at hc;obtain ⟨rfl,rfl⟩:=hc;exact (zDz hY hR rfl ht hs htk hte a.eval h1 h2 (hrd k (by simp [e1])) hS hr hz hk.1 hk.2).opW
      ·cases hc
     ·cases hc
    ·cases hc
   ·cases hc
  ·cases hc
 | mapUpdate t m k v =>
  have h1:=hx m (by simp [Op.operands]);have h2:=hx k (by simp [Op.operands]);have h3:=hx v (by simp [Op.operands]);simp only [cop] at hc
  split at hc
  ·rename_i ti ht
   split at hc
   ·rename_i kt el j hs e1;rw [e1] at h1
    split at hc
    ·rename_i es tk hS htk
     split at hc
     ·rename_i es' hset
      split at hc
      ·rename_i hk;simp only [Bool.and_eq_true] at hk;simp only [Option.some.injEq,Prod.mk.injEq] at hc;obtain ⟨rfl,rfl⟩:=hc;exact (zAo hY hR rfl ht hs htk a.eval h1 h2 h3 (hA.all rfl j) hS hset hk.1 hk.2).opW
      ·cases hc
     ·cases hc
    ·cases hc
   ·cases hc
  ·cases hc
 | extract x i =>
  have h1:=hx x (by simp [Op.operands]);simp only [cop] at hc
  split at hc
  ·rename_i vs e1;rw [e1] at h1;simp only [Option.map_eq_some_iff,Prod.mk.injEq] at hc;obtain ⟨c,hcc,rfl,rfl⟩:=hc;generalize hv:a.eval x = v at h1;cases h1 with
   | tup _ us hl h =>
    obtain ⟨u,hu,hrun⟩:=zC9 (P:=P) (w:=w) hl hcc;exact (Sim.same hR (v:=u) (by unfold execOp;simp only [hv,Sem.run_bind,hrun,Result.andThen_ok,Sem.run_pure]) (h i c u hcc hu)).opW
  ·cases hc
 | call c =>
  obtain ⟨callee,args,ats⟩:=c;simp only [cop] at hc
  split at hc
  ·-- len
   have hxs:∀ x ∈ args.toList,VRel E (ev T x) (a.eval x):=fun x hx'=>hx x (by simp only [Op.operands,Call.operands,Array.toList_append,List.mem_append];exact .inr hx')
   split at hc
   ·rename_i cx t he1 he2;obtain ⟨x,ha,hcx⟩:∃ x,args = #[x]/\ev T x = cx:=by
     cases hl:args.toList with
     | nil=>simp [hl] at he1
     | cons x l =>
      cases l with
      | nil=>simp [hl] at he1;exact ⟨x,Array.toList_inj.1 (by rw [hl]),he1⟩
      | cons y l=>simp [hl] at he1
    have hat:ats = #[t]:=Array.toList_inj.1 (by rw [he2]);subst ha;subst hat;have h1:=hxs x (by simp);rw [hcx] at h1;have hexec:∀ n:Nat,(Builtin.len_ #[t] ty #[a.eval x]).run P w = .ok (goInt n) w->OpW P Y E C w S S pl ⟨dst,.call ⟨.builtin .len,#[x],#[t]⟩,ty,pos,after,guard⟩ a (.int .i64 n):=fun n hn =>
     (Sim.same hR (v:=.int .i64 n) (by
      unfold execOp;simp only [resolve,Sem.run_bind,Sem.run_pure,Result.andThen_ok,invoke,builtin];simp [hn,goInt]) (.int _ _)).opW
    split at hc
    ·rename_i ti ht;have hu:=(hY.tab _ _ ht).sh
     split at hc
     ·rename_i s hs;rw [hs] at hu;simp only [Option.some.injEq,Prod.mk.injEq] at hc;obtain ⟨rfl,rfl⟩:=hc;generalize hv:a.eval x = v at h1 hexec;cases h1;exact hexec _ (by simp [Builtin.len_,run_underlying hu])
     ·rename_i el hs;rw [hs] at hu;simp only [Option.some.injEq,Prod.mk.injEq] at hc;obtain ⟨rfl,rfl⟩:=hc;generalize hv:a.eval x = v at h1 hexec;cases h1;exact hexec 0 (by simp [Builtin.len_,run_underlying hu])
     ·rename_i el rows hs;rw [hs] at hu;simp only [Option.some.injEq,Prod.mk.injEq] at hc;obtain ⟨rfl,rfl⟩:=hc;generalize hv:a.eval x = v at h1 hexec;cases h1
      ·exact hexec _ (by simp [Builtin.len_,run_underlying hu])
      ·exact hexec _ (by simp [Builtin.len_,run_underlying hu])
     ·rename_i el k n hs;rw [hs] at hu;simp only [Option.some.injEq,Prod.mk.injEq] at hc;obtain ⟨rfl,rfl⟩:=hc;generalize hv:a.eval x = v at h1 hexec;cases h1;exact hexec _ (by simp [Builtin.len_,run_underlying hu])
     ·cases hc
    ·cases hc
   ·cases hc
  ·-- append
   have hxs:∀ x ∈ args.toList,VRel E (ev T x) (a.eval x):=fun x hx'=>hx x (by simp only [Op.operands,Call.operands,Array.toList_append,List.mem_append];exact .inr hx')
   split at hc
   ·rename_i cx cy t t2 he1 he2;obtain ⟨x,y,ha,hcx,hcy⟩:∃ x y,args = #[x,y]/\ev T x = cx/\ev T y = cy:=by
     cases hl:args.toList with
     | nil=>simp [hl] at he1
     | cons x l =>
      cases l with
      | nil=>simp [hl] at he1
      | cons y l =>
       cases l with
       | nil=>simp [hl] at he1;exact ⟨x,y,Array.toList_inj.1 (by rw [hl]),he1.1,he1.2⟩
       | cons z l=>simp [hl] at he1
    have hat:ats = #[t,t2]:=Array.toList_inj.1 (by rw [he2]);subst ha;subst hat;have h1:=hxs x (by simp);have h2:=hxs y (by simp);rw [hcx] at h1;rw [hcy] at h2
    split at hc
    ·rename_i ti ti2 ht ht2
     split at hc
     ·rename_i el e2 hs hs2;simp only [yj] at hc;cases hte:Y.tab el with
      | none=>simp [hte] at hc
      | some te =>
       simp only [hte,Option.map_some] at hc;exact (zDy hY hR hN (hA.all rfl) rfl ht hs ht2 hs2 hte a.eval h1 h2 hc).opW
     ·cases hc
    ·cases hc
   ·cases hc
  ·-- max
   have hxs:∀ x ∈ args.toList,VRel E (ev T x) (a.eval x):=fun x hx'=>hx x (by simp only [Op.operands,Call.operands,Array.toList_append,List.mem_append];exact .inr hx')
   split at hc
   ·rename_i k n k' m he1;obtain ⟨x,y,ha,hcx,hcy⟩:∃ x y,args = #[x,y]/\ev T x = .int k n/\ev T y = .int k' m:=by
     cases hl:args.toList with
     | nil=>simp [hl] at he1
     | cons x l =>
      cases l with
      | nil=>simp [hl] at he1
      | cons y l =>
       cases l with
       | nil=>simp [hl] at he1;exact ⟨x,y,Array.toList_inj.1 (by rw [hl]),he1.1,he1.2⟩
       | cons z l=>simp [hl] at he1
    subst ha;have h1:=hxs x (by simp);have h2:=hxs y (by simp);rw [hcx] at h1;rw [hcy] at h2;simp only [Option.some.injEq,Prod.mk.injEq] at hc;obtain ⟨rfl,rfl⟩:=hc;generalize hv:a.eval x = v at h1;generalize hv2:a.eval y = v2 at h2;cases h1;cases h2;exact (Sim.same hR (v:=.int k (if m > n then m else n)) (by
     unfold execOp;simp only [resolve,Sem.run_bind,Sem.run_pure,Result.andThen_ok,invoke,builtin];simp [hv,hv2,Builtin.max_,Builtin.max2]) (.int _ _)).opW
   ·cases hc
  ·rename_i f
   split at hc
   ·rename_i g caps hf;refine zFc (o:=⟨dst,.call ⟨.value f,args,_⟩,ty,pos,after,guard⟩) hcall hR (hA.all rfl) (hCS rfl) (T:=T) rfl hf (hx f (by simp [Op.operands,Call.operands])) (fun x hx'=>hx x (by simp [Op.operands,Call.operands];right;simpa using hx')) hc _
   ·cases hc
  ·cases hc
 | _=>simp [cop] at hc

end
end Go.Proofs.XVai
end
section
namespace Go.Proofs.XVai
open Go

def Grow (pl:Option Nat) (S S':St):Prop:=S.length<=S'.length/\∀ k:Nat,some k≠pl->S[k]? = some .dummy->S'[k]? = some .dummy

theorem Grow.refl (pl:Option Nat) (S:St):Grow pl S S:=⟨Nat.le_refl _,fun _ _ h=>h⟩
theorem Grow.trans {pl:Option Nat} {A B D:St} (h:Grow pl A B) (k:Grow pl B D):Grow pl A D :=
 ⟨Nat.le_trans h.1 k.1,fun j hj hd=>k.2 j hj (h.2 j hj hd)⟩
theorem Grow.weaken {A B:St} (h:Grow none A B) (pl:Option Nat):Grow pl A B:=⟨h.1,fun j _ hd=>h.2 j (by simp) hd⟩
theorem Grow.push (pl:Option Nat) (S:St) (o:Ob):Grow pl S (S++[o]):=by
 refine ⟨by simp,fun k _ h=>?_⟩;rw [List.getElem?_append_left (List.getElem?_eq_some_iff.1 h).1];exact h
theorem Grow.of_newOb (pl:Option Nat) (S:St) (o:Ob):Grow pl S (newOb pl S o).2:=by
 cases pl with
 | none=>exact Grow.push _ _ _
 | some s =>
  refine ⟨by simp [Go.Proofs.XVai.newOb],fun k hk h=>?_⟩;simp only [Go.Proofs.XVai.newOb];rw [List.getElem?_set_ne (fun e=>hk (by rw [e]))];exact h
theorem Grow.set (pl:Option Nat) {S:St} {k:Nat} {old:Ob} (o:Ob) (h:S[k]? = some old) (ho:old≠.dummy):Grow pl S (S.set k o):=by
 refine ⟨by simp,fun j _ hj=>?_⟩;have:k≠j:=fun e=>ho (by rw [e,hj] at h;cases h;rfl);rw [List.getElem?_set_ne this];exact hj

theorem Grow.of_mapMS {α β:Type} {pl:Option Nat} {f:α->St->Option (β × St)} (hf:∀ x S y S',f x S = some (y,S')->Grow pl S S'):∀ (xs:List α) (S S':St) (ys:List β),mapMS f xs S = some (ys,S')->Grow pl S S':=by
 intro xs
 induction xs with
 | nil=>intro S S' ys h;simp only [Go.Proofs.XVai.mapMS,Option.some.injEq,Prod.mk.injEq] at h;rw [<- h.2];exact .refl _ _
 | cons x xs ih =>
  intro S S' ys h;simp only [Go.Proofs.XVai.mapMS] at h
  split at h
  ·rename_i h1
   split at h
   ·rename_i h2;simp only [Option.some.injEq,Prod.mk.injEq] at h;rw [<- h.2];exact (hf _ _ _ _ h1).trans (ih _ _ _ h2)
   ·cases h
  ·cases h

theorem Grow.of_frzC (pl:Option Nat) (n0:Nat):∀ (d:Nat) (x:HV) (S:St) (y:HV) (S':St),frzC n0 d x S = some (y,S')->Grow pl S S':=by
 intro d
 induction d with
 | zero =>
  intro x S y S' h;cases x <;> simp only [Go.Proofs.XVai.frzC,Option.some.injEq,Prod.mk.injEq] at h
  case sl =>
   split at h
   ·simp only [Option.some.injEq,Prod.mk.injEq] at h;rw [<- h.2];exact .refl _ _
   ·cases h
  all_goals (rw [<- h.2];exact .refl _ _)
 | succ d ih =>
  intro x S y S' h;cases x <;> simp only [Go.Proofs.XVai.frzC,Option.some.injEq,Prod.mk.injEq] at h
  case sl k n =>
   split at h
   ·simp only [Option.some.injEq,Prod.mk.injEq] at h;rw [<- h.2];exact .refl _ _
   ·split at h
    ·rename_i fr rows hk
     split at h
     ·split at h
      ·rename_i rows' S1 hm;have h1:Grow pl S S1:=Grow.of_mapMS (fun x S y S' h=>Grow.of_mapMS ih x S S' y h) _ _ _ _ hm;have hlen:=Y2 (fun x S y S' h=>Y2 (zEl n0 d) x S S' y h) _ _ _ _ hm
       split at h
       ·simp only [Option.some.injEq,Prod.mk.injEq] at h;rw [<- h.2];cases fr with
        | true=>exact h1
        | false =>
         refine ⟨by simp;omega,fun j hj hd=>?_⟩;have hne:k≠j:=fun e=>by rw [e,hd] at hk;cases hk
         simp only [Bool.false_eq_true,if_false];rw [List.getElem?_set_ne hne];exact h1.2 j hj hd
       ·cases h
      ·cases h
     ·cases h
    ·cases h
  all_goals (rw [<- h.2];exact .refl _ _)
theorem Grow.of_frzV (pl:Option Nat) (n0:Nat) (x:HV) (S:St) (y:HV) (S':St) (h:frzV n0 x S = some (y,S')):Grow pl S S':=by
 cases x
 case agg cs =>
  simp only [Go.Proofs.XVai.frzV] at h
  split at h
  ·rename_i h1;simp only [Option.some.injEq,Prod.mk.injEq] at h;rw [<- h.2];exact Grow.of_mapMS (Grow.of_frzC pl n0 6) _ _ _ _ h1
  ·cases h
 all_goals exact Grow.of_frzC pl n0 6 _ _ _ _ (by simpa only [Go.Proofs.XVai.frzV] using h)
theorem Grow.of_frzR (pl:Option Nat) (n0:Nat) (x:HV) (S:St) (y:HV) (S':St) (h:frzR n0 x S = some (y,S')):Grow pl S S':=by
 cases x
 case tup cs =>
  simp only [Go.Proofs.XVai.frzR] at h
  split at h
  ·rename_i h1;simp only [Option.some.injEq,Prod.mk.injEq] at h;rw [<- h.2];exact Grow.of_mapMS (Grow.of_frzV pl n0) _ _ _ _ h1
  ·cases h
 all_goals exact Grow.of_frzV pl n0 _ _ _ _ (by simpa only [Go.Proofs.XVai.frzR] using h)

theorem Grow.of_promote (pl:Option Nat) (fl:Nat->Bool):∀ (row:List HV) (j:Nat) (S:St),Grow pl S (promote fl j row S).2:=by
 intro row
 induction row with
 | nil=>intro j S;exact .refl _ _
 | cons c row ih =>
  intro j S
  by_cases h:c = .nils
  ·subst h;simp only [Go.Proofs.XVai.promote];exact (Grow.push _ _ _).trans (ih _ _)
  ·have:promote fl j (c :: row) S = (c :: (promote fl (j + 1) row S).1,(promote fl (j + 1) row S).2):=by
    cases c <;> first | (exact absurd rfl h) | rfl
   rw [this];exact ih _ _
theorem Grow.of_zrow {pl:Option Nat} {fl:Nat->Bool} {pr:Bool} {z:List HV} {S S1:St} {row:List HV} (h:zrow fl pr z S = (row,S1)):Grow pl S S1:=by
 unfold Go.Proofs.XVai.zrow at h;cases pr with
 | false=>simp only [Bool.false_eq_true,if_false,Prod.mk.injEq] at h;rw [<- h.2];exact .refl _ _
 | true =>
  simp only [if_true] at h;have:=Grow.of_promote pl fl z 0 S;rw [h] at this;exact this
theorem Grow.of_zrows {pl:Option Nat} (fl:Nat->Bool) (pr:Bool) (z:List HV):∀ (n:Nat) (S S1:St) (rows:List (List HV)),zrows fl pr z n S = (rows,S1)->Grow pl S S1:=by
 intro n
 induction n with
 | zero=>intro S S1 rows h;simp only [Go.Proofs.XVai.zrows,Prod.mk.injEq] at h;rw [<- h.2];exact .refl _ _
 | succ n ih =>
  intro S S1 rows h;simp only [Go.Proofs.XVai.zrows] at h;generalize hq:Go.Proofs.XVai.zrow fl pr z S = q at h;obtain ⟨r,Sa⟩:=q;simp only at h;generalize hq2:Go.Proofs.XVai.zrows fl pr z n Sa = q2 at h;obtain ⟨rs,Sb⟩:=q2;simp only [Prod.mk.injEq] at h;rw [<- h.2];exact (Grow.of_zrow hq).trans (ih _ _ _ hq2)

theorem zCL {Y:Sys} {pl:Option Nat} {S S':St} {t:Nat} {x v:HV} (h:XO Y S t x v = some S'):Grow pl S S':=by
 unfold XO at h
 split at h
 ·split at h
  ·rename_i hk
   split at h
   ·split at h
    ·simp only [Option.some.injEq] at h;rw [<- h];exact Grow.set _ _ hk (by simp)
    ·cases h
   ·cases h
  ·cases h
 ·cases h
theorem zBX {fz mu:Bool} {pl:Option Nat} {S S':St} {z:Nat} {x y v:HV} (h:uW fz mu pl S z x y = some (v,S')):Grow pl S S':=by
 unfold uW at h
 split at h
 ·cases h
 ·split at h
  ·split at h
   ·split at h
    ·simp only [Option.some.injEq,Prod.mk.injEq] at h;rw [<- h.2];exact .refl _ _
    ·split at h
     ·split at h
      ·simp only [Option.some.injEq,Prod.mk.injEq] at h;rw [<- h.2];exact .refl _ _
      ·simp only [Option.some.injEq,Prod.mk.injEq] at h;rw [<- h.2];exact Grow.of_newOb _ _ _
     ·cases h
   ·split at h
    ·rename_i hk
     split at h
     ·simp only [Option.some.injEq,Prod.mk.injEq] at h;rw [<- h.2];exact Grow.set _ _ hk (by simp)
     ·cases h
    ·cases h
   ·cases h
  ·cases h
theorem zCK {Y:Sys} {pl:Option Nat} {S S':St} {t:Nat} {x v:HV} {lo hi:Option HV} (h:YQ Y S t x lo hi = some (v,S')):Grow pl S S':=by
 unfold YQ at h
 split at h
 ·cases h
 ·split at h
  ·split at h
   ·split at h
    ·split at h
     ·simp only [Option.some.injEq,Prod.mk.injEq] at h;rw [<- h.2];exact .refl _ _
     ·cases h
    ·cases h
   ·cases h
  ·split at h
   ·rename_i hf
    split at h
    ·split at h
     ·simp only [Option.some.injEq,Prod.mk.injEq] at h;rw [<- h.2];exact Grow.of_frzC _ _ _ _ _ _ _ hf
     ·cases h
    ·cases h
   ·cases h
  ·cases h

theorem Wi {Y:Sys} {fid:Nat} {call:Nat->List HV->St->Option (HV × St)} (hcall:∀ g args S v S',call g args S = some (v,S')->Grow none S S') {pl:Option Nat} {o:Oper} {T:Tm} {S S':St} {hv:HV}
  (hc:cop Y fid call pl o T S = some (hv,S')):Grow pl S S':=by
 obtain ⟨dst,op,ty,pos,after,guard⟩:=o;have same:∀ {x:Option HV},x.map (fun v=>(v,S)) = some (hv,S')->Grow pl S S':=fun {x} h=>by
  obtain ⟨y,_,h2⟩:=Option.map_eq_some_iff.1 h;simp only [Prod.mk.injEq] at h2;rw [<- h2.2];exact .refl _ _
 have here:∀ {x:HV},some (x,S) = some (hv,S')->Grow pl S S':=fun {x} h=>by
  simp only [Option.some.injEq,Prod.mk.injEq] at h;rw [<- h.2];exact .refl _ _
 have own:∀ {c:Bool} {fr:Bool} {x:HV},some (if c&&pl.isNone then (HV.sl S.length 0,S++[Ob.cells fr []]) else (x,S)) = some (hv,S')->Grow pl S S':=fun {c fr x} h=>by
  split at h
  ·rename_i hb;simp only [Bool.and_eq_true,Option.isNone_iff_eq_none] at hb;obtain ⟨_,rfl⟩:=hb;simp only [Option.some.injEq,Prod.mk.injEq] at h;rw [<- h.2];exact Grow.of_newOb none S _
  ·exact here h
 cases op with
 | move x=>simp only [cop,<- Bool.and_assoc] at hc;exact own hc
 | assign x=>simp only [cop,<- Bool.and_assoc] at hc;exact own hc
 | alloc t =>
  simp only [cop] at hc
  split at hc
  ·simp only [Option.some.injEq,Prod.mk.injEq] at hc;rw [<- hc.2];exact Grow.of_newOb _ _ _
  ·cases hc
 | box t x =>
  simp only [cop,Option.some.injEq,Prod.mk.injEq] at hc;rw [<- hc.2];exact Grow.of_newOb _ _ _
 | build t parts =>
  simp only [cop] at hc
  split at hc
  ·generalize hq:zrow (Y.muta fid) (Y.prom fid&&pl.isNone) _ S = q at hc;obtain ⟨r,Sa⟩:=q;simp only at hc
   split at hc
   ·split at hc
    ·simp only [Option.some.injEq,Prod.mk.injEq] at hc;rw [<- hc.2];exact Grow.of_zrow hq
    ·cases hc
   ·cases hc
  ·cases hc
 | buildSlice t len parts =>
  simp only [cop] at hc
  split at hc
  ·split at hc
   ·split at hc
    ·split at hc
     ·split at hc
      ·exact own hc
      ·cases hc
     ·split at hc
      ·split at hc
       ·split at hc
        ·rename_i hb;simp only [Bool.and_eq_true,Option.isNone_iff_eq_none] at hb;obtain ⟨_,rfl⟩:=hb
         split at hc
         ·simp only [Option.some.injEq,Prod.mk.injEq] at hc;rw [<- hc.2];exact Grow.of_newOb none S _
         ·cases hc
        split at hc
        ·rename_i hm
         split at hc
         ·simp only [Option.some.injEq,Prod.mk.injEq] at hc;rw [<- hc.2];exact Grow.of_mapMS (fun x S y S' h=>Grow.of_mapMS (Grow.of_frzC pl 0 6) x S S' y h) _ _ _ _ hm
         ·cases hc
        ·cases hc
       ·cases hc
      ·cases hc
    ·cases hc
   ·cases hc
  ·cases hc
 | load t x=>simp only [cop] at hc;exact same hc
 | store t x v =>
  simp only [cop] at hc;obtain ⟨y,h1,h2⟩:=Option.map_eq_some_iff.1 hc;simp only [Prod.mk.injEq] at h2;rw [<- h2.2];exact zCL h1
 | convert s d x=>simp only [cop] at hc;exact same hc
 | fieldAddr t x f=>simp only [cop] at hc;exact same hc
 | indexAddr t x i=>simp only [cop] at hc;exact same hc
 | slice t x lo hi mx =>
  cases mx with
  | none=>simp only [cop] at hc;exact zCK hc
  | some m=>simp [cop] at hc
 | makeMap t r =>
  cases r with
  | none=>simp only [cop,Option.some.injEq,Prod.mk.injEq] at hc;rw [<- hc.2];exact Grow.of_newOb _ _ _
  | some m=>simp [cop] at hc
 | makeSlice t l c =>
  simp only [cop] at hc
  split at hc
  ·split at hc
   ·split at hc
    ·split at hc
     ·generalize hq:zrows (Y.muta fid) (Y.prom fid&&pl.isNone) _ _ S = q at hc;obtain ⟨r,Sa⟩:=q;simp only [Option.some.injEq,Prod.mk.injEq] at hc;rw [<- hc.2];exact (Grow.of_zrows _ _ _ _ _ _ _ hq).trans (Grow.of_newOb _ _ _)
     ·cases hc
    ·cases hc
   ·cases hc
  ·cases hc
 | mapUpdate t m k v =>
  simp only [cop] at hc
  split at hc
  ·split at hc
   ·split at hc
    ·rename_i hk _
     split at hc
     ·split at hc
      ·simp only [Option.some.injEq,Prod.mk.injEq] at hc;rw [<- hc.2];exact Grow.set _ _ hk (by simp)
      ·cases hc
     ·cases hc
    ·cases hc
   ·cases hc
  ·cases hc
 | extract x i =>
  simp only [cop] at hc
  split at hc
  ·exact same hc
  ·cases hc
 | call c =>
  simp only [cop] at hc
  split at hc
  ·repeat' split at hc
   all_goals first | exact here hc | cases hc
  ·split at hc
   ·split at hc
    ·split at hc
     ·split at hc
      ·exact zBX hc
      ·cases hc
     ·cases hc
    ·cases hc
   ·cases hc
  ·split at hc
   ·exact here hc
   ·cases hc
  ·split at hc
   ·split at hc
    ·exact (hcall _ _ _ _ _ hc).weaken _
    ·split at hc
     ·rename_i hm;exact (Grow.of_mapMS (Grow.of_frzV pl 0) _ _ _ _ hm).trans ((hcall _ _ _ _ _ hc).weaken _)
     ·cases hc
   ·cases hc
  ·cases hc
 | binOp op t x y yt =>
  simp only [cop] at hc
  split at hc
  all_goals (first | exact same hc | skip)
  all_goals ((repeat' split at hc);all_goals first | exact here hc | cases hc)
 | _ =>
  simp only [cop] at hc
  first
   | exact here hc
   | (cases hc;done)
   | ((repeat' split at hc);all_goals first | exact here hc | cases hc)

end Go.Proofs.XVai
end
section
namespace Go.Proofs.XVai
open Go

def zDt:Operand->Bool
 | .const v=>zF7 v
 | _=>true
def WU (n:Nat) (o:Oper):Bool:=o.op.operands.toList.all zDt&&(match o.dst with | some d=>d < n | none=>true)

def TRel (E:Env) (T:Tm) (a:Act):Prop:=∀ t,VRel E (T t) (a.tmps.getD t undef)

theorem UF (E:Env):VRel E (.tup []) undef:=.tup [] #[] rfl (by simp)

theorem TRel.mono {E E':Env} {T:Tm} {a:Act} (h:TRel E T a) (hE:E.le E'):TRel E' T a:=fun t=>(h t).mono hE

theorem VL (a:Act) (d:Option Tmp) (v:Value):(a.put d v).tmps.size = a.tmps.size:=by
 cases d <;> simp [Act.put]
theorem put_defers (a:Act) (d:Option Tmp) (v:Value):(a.put d v).defers = a.defers:=by
 cases d <;> simp [Act.put]
theorem Qz (a:Act) (d t:Nat) (v:Value) (hd:d < a.tmps.size):(a.put (some d) v).tmps.getD t undef = if t = d then v else a.tmps.getD t undef:=by
 simp only [Act.put]
 by_cases h:t = d
 ·subst h;simp [hd]
 ·have:d≠t:=Ne.symm h;simp [Array.getElem?_setIfInBounds_ne this,h]

theorem TRel.put {E:Env} {T:Tm} {a:Act} {d:Option Nat} {hv:HV} {v:Value} (h:TRel E T a) (hd:∀ t,d = some t->t < a.tmps.size) (hv':VRel E hv v):TRel E (put T d hv) (a.put d v):=by
 intro t;cases d with
 | none=>exact h t
 | some d =>
  rw [Qz a d t v (hd d rfl)];simp only [Go.Proofs.XVai.put,zCA]
  split
  ·exact hv'
  ·exact h t

theorem Qx {E:Env} {T:Tm} {a:Act} {x:Operand} (h:∀ t,x = .tmp t->VRel E (T t) (a.tmps.getD t undef)) (hx:zDt x = true):VRel E (ev T x) (a.eval x):=by
 cases x with
 | tmp t=>exact h t rfl
 | const v=>exact zEv hx
 | global g=>exact .gp g
 | func f=>exact .fn f [] #[] rfl (by simp)

theorem zBP {E:Env} {T:Tm} {a:Act} {ops:Array Oper} {o:Oper}
  (h:∀ (g:Nat) (want:Bool) (d:Nat),o.guard = some (g,want)->(ops[g]?).bind (·.dst) = some d->VRel E (T d) (a.tmps.getD d undef)) :
  Region.wanted o (yielded ops a.tmps) = yA ops o T:=by
 unfold Region.wanted yA;cases hg:o.guard with
 | none=>rfl
 | some gw =>
  obtain ⟨g,want⟩:=gw;simp only;unfold yielded;cases hd:(ops[g]?).bind (·.dst) with
  | none=>rfl
  | some d =>
   have hr:=h g want d hg hd;simp only [Option.bind_some];have hget:∀ b,a.tmps[d]? = some (.bool b) ↔ a.tmps.getD d undef = .bool b:=by
    intro b;rw [Array.getD_eq_getD_getElem?];cases hq:a.tmps[d]? with
    | none=>simp [undef]
    | some x=>simp
   generalize hv:a.tmps.getD d undef = v at hr;cases hT:T d with
   | bool b =>
    rw [hT] at hr;cases hr;rw [(hget b).2 hv];cases b <;> cases want <;> rfl
   | _ =>
    rw [hT] at hr;have hno:∀ b,v≠.bool b:=fun b e=>by subst e;cases hr
    have hne:∀ b,a.tmps[d]?≠some (.bool b):=fun b e=>hno b (by rw [<- hv];exact (hget b).1 e);cases hq:a.tmps[d]? with
    | none=>rfl
    | some x=>cases x <;> first | rfl | (exact absurd hq (hne _))

structure Good (Y:Sys) (E:Env) (C:Nat->Option Ob) (w:World) (n:Nat) (T:Tm) (S:St) (a:Act):Prop where
 rel:Rel Y E C w
 tr:TRel E T a
 ag:∀ k,yV C S k
 be:∀ k,S.length<=k->C k = none
 sz:a.tmps.size = n
 df:a.defers = []

def Ex.out:Ex->Exit
 | .norm=>.normal
 | .exit id=>.exit id
 | .ret=>.ret

def After (Y:Sys) (E:Env) (C:Nat->Option Ob) (w:World) (n:Nat) (S:St) (ex:Ex) (T':Tm) (S':St) (e:Exit) (a':Act) (w':World):Prop :=
 e = ex.out/\Grow none S S'/\∃ E' C',Good Y E' C' w' n T' S' a'/\Upd C S C' S' none/\Go1 E w E' w'

theorem After.trans {Y:Sys} {E E1:Env} {C C1:Nat->Option Ob} {w w1:World} {n:Nat} {T T2:Tm} {S S1 S2:St} {a:Act} {ex:Ex} {e:Exit} {a2:Act} {w2:World}
  (hG:Good Y E C w n T S a) (g1:Grow none S S1) (U1:Upd C S C1 S1 none) (G1:Go1 E w E1 w1) (h:After Y E1 C1 w1 n S1 ex T2 S2 e a2 w2):After Y E C w n S ex T2 S2 e a2 w2:=by
 obtain ⟨h1,h2,E2,C2,h3,h4,h5⟩:=h;exact ⟨h1,g1.trans h2,E2,C2,h3,U1.trans h4 hG.be hG.rel.nodummy,G1.trans h5⟩

structure CallOk (P:Program) (Y:Sys) (call:Nat->List HV->St->Option (HV × St)):Prop extends CallSim P Y call where
 grow:∀ g args S v S',call g args S = some (v,S')->Grow none S S'

theorem zFg {P:Program} {Y:Sys} {fid:Nat} {call:Nat->List HV->St->Option (HV × St)} (hY:SysOk Y P) (hcall:CallOk P Y call) {ops:Array Oper} {n:Nat} :
  ∀ (l:List Oper) (T:Tm) (S:St) (T':Tm) (S':St) (E:Env) (C:Nat->Option Ob) (w:World) (a:Act),WI Y fid call ops l T S = some (T',S')->l.all (WU n) = true ->
   Good Y E C w n T S a->∀ Q:Exit->Act->World->Prop,(∀ e a' w',After Y E C w n S .norm T' S' e a' w'->Q e a' w')->wpList P ops Q l a w:=by
 intro l
 induction l with
 | nil =>
  intro T S T' S' E C w a h hl hG Q hQ;simp only [WI,Option.some.injEq,Prod.mk.injEq] at h;obtain ⟨rfl,rfl⟩:=h;exact hQ _ _ _ ⟨rfl,Grow.refl _ _,E,C,hG,Upd.refl _ _ _,Go1.refl _ _⟩
 | cons o l ih =>
  intro T S T' S' E C w a h hl hG Q hQ;simp only [List.all_cons,Bool.and_eq_true] at hl;have ho:=hl.1;simp only [WU,Bool.and_eq_true] at ho;have hd:∀ t,o.dst = some t->t < a.tmps.size:=fun t ht=>by
   have:=ho.2;rw [ht] at this;rw [hG.sz];simpa using this
  simp only [WI] at h;unfold wpList;have hwt:Region.wanted o (yielded ops a.tmps) = yA ops o T:=zBP (E:=E) fun g want d _ _=>hG.tr d;rw [hwt]
  by_cases hw:yA ops o T = true
  ·rw [if_pos hw] at h ⊢;left
   split at h
   ·rename_i v S1 hc;refine zBZ hY hcall.toCallSim hc hG.rel (.inl hG.ag) (fun _=>hG.be) hG.be (fun x hx=>Qx (fun t _=>hG.tr t) (List.all_eq_true.1 ho.1 x hx)) _ _ fun v' w' E' C' hv U R G=>?_;have g1:Grow none S S1:=Wi hcall.grow hc;have hG1:Good Y E' C' w' n (put T o.dst v) S1 (a.put o.dst v'):=⟨R,(hG.tr.mono G.le).put hd hv,U.agree hG.ag,U.beyond g1.1 hG.be,by rw [VL];exact hG.sz,by rw [put_defers];exact hG.df⟩;exact ih _ _ _ _ E' C' w' _ h hl.2 hG1 Q fun e a2 w2 hq=>hQ _ _ _ (After.trans hG g1 U G hq)
   ·cases h
  ·rw [if_neg hw] at h ⊢;exact ih _ _ _ _ E C w _ h hl.2 ⟨hG.rel,hG.tr.put hd (UF E),hG.ag,hG.be,by rw [VL];exact hG.sz,by rw [put_defers];exact hG.df⟩ Q hQ

end Go.Proofs.XVai
end
section
namespace Go.Proofs.XVai
open Go

/-! ### ancestors -/
def zII (ops:Array Oper) (acc:Array Nat):Prop:=acc.size<=ops.size/\∀ j i,(acc.getD j 0).testBit i = true->∃ o,ops[j]? = some o/\∃ e ∈ o.after.toList,Region.binds .any e = true/\(e.on = i\/(acc.getD e.on 0).testBit i = true)

theorem zEm (look:Nat->Nat):∀ (l:List Edge) (s i:Nat),(l.foldl (fun s e=>if Region.binds .any e then s ||| 2 ^ e.on ||| look e.on else s) s).testBit i = true ->
  s.testBit i = true\/∃ e ∈ l,Region.binds .any e = true/\(e.on = i\/(look e.on).testBit i = true):=by
 intro l
 induction l with
 | nil=>intro s i h;exact .inl h
 | cons e l ih =>
  intro s i h;simp only [List.foldl_cons] at h;rcases ih _ i h with h1 | ⟨e',h1,h2⟩
  ·by_cases hb:Region.binds .any e = true
   ·rw [if_pos hb] at h1;simp only [Nat.testBit_or,Bool.or_eq_true] at h1;rcases h1 with (h1 | h1) | h1
    ·exact .inl h1
    ·right;refine ⟨e,by simp,hb,.inl ?_⟩;rw [Nat.testBit_two_pow] at h1;simpa using h1
    ·right;exact ⟨e,by simp,hb,.inr h1⟩
   ·rw [if_neg hb] at h1;exact .inl h1
  ·exact .inr ⟨e',by simp [h1],h2⟩

theorem zFX (ops:Array Oper):∀ (l:List Oper) (acc:Array Nat),(∀ j:Nat,l[j]? = ops[acc.size + j]?)->zII ops acc ->
  zII ops (l.foldl (fun acc o=>acc.push (o.after.foldl (fun s e=>if Region.binds .any e then s ||| 2 ^ e.on ||| acc.getD e.on 0 else s) 0)) acc):=by
 intro l
 induction l with
 | nil=>intro acc _ h;exact h
 | cons o l ih =>
  intro acc hl h;simp only [List.foldl_cons];have h0:ops[acc.size]? = some o:=by have:=hl 0;simpa using this.symm
  refine ih _ (fun j=>by have:=hl (j + 1);simpa [Nat.add_assoc,Nat.add_comm 1 j] using this) ⟨by have:=(Array.getElem?_eq_some_iff.1 h0).1;simp;omega,fun j i hj=>?_⟩;have hmono:∀ (x k i:Nat),(acc.getD k 0).testBit i = true->((acc.push x).getD k 0).testBit i = true:=fun x k i hk=>by
   by_cases hlt:k < acc.size
   ·have:(acc.push x).getD k 0 = acc.getD k 0:=by rw [Array.getD_eq_getD_getElem?,Array.getD_eq_getD_getElem?,Array.getElem?_push,if_neg (by omega)]
    rw [this];exact hk
   ·simp [Array.getElem?_eq_none (show acc.size<=k by omega)] at hk
  rcases Nat.lt_trichotomy j acc.size with hlt | heq | hgt
  ·have:∀ x,(acc.push x).getD j 0 = acc.getD j 0:=fun x=>by rw [Array.getD_eq_getD_getElem?,Array.getD_eq_getD_getElem?,Array.getElem?_push,if_neg (by omega)]
   rw [this] at hj;obtain ⟨o',h1,e,h2,h3,h4⟩:=h.2 j i hj;exact ⟨o',h1,e,h2,h3,h4.imp id (hmono _ _ _)⟩
  ·subst heq;have:∀ x,(acc.push x).getD acc.size 0 = x:=fun x=>by simp
   rw [this,<- Array.foldl_toList] at hj;rcases zEm (fun k=>acc.getD k 0) _ _ _ hj with h1 | ⟨e,h1,h2,h3⟩
   ·simp at h1
   ·exact ⟨o,h0,e,h1,h2,h3.imp id (hmono _ _ _)⟩
  ·have:∀ x,(acc.push x).getD j 0 = 0:=fun x=>by
    have:(acc.push x)[j]? = none:=Array.getElem?_eq_none (by simp;omega);simp [Array.getD_eq_getD_getElem?,this]
   rw [this] at hj;simp at hj

theorem QH {ops:Array Oper} {i j:Nat} (h:anc ops i j = true):∃ o,ops[j]? = some o/\∃ e ∈ o.after.toList,Region.binds .any e = true/\(e.on = i\/anc ops i e.on = true):=by
 have:=zFX ops ops.toList #[] (fun j=>by simp) ⟨by simp,fun j i h=>by simp at h⟩;unfold anc Region.before at *;rw [<- Array.foldl_toList] at *;exact this.2 j i h

/-! ### what is checked of a region that draws -/
def edgesOk (ops:Array Oper):Bool:=(List.range ops.size).all fun j=>match ops[j]? with
 | some o=>o.after.toList.all fun e=>!Region.binds .any e||decide (e.on < j)
 | none=>true
def QA (ops:Array Oper) (o:Oper):List Tmp:=o.looksAt ops++o.dst.toList
def tmpsOk (ops:Array Oper):Bool:=(List.range ops.size).all fun i=>match (ops[i]?).bind (·.dst) with
 | some d=>(List.range ops.size).all fun j=>i == j||match ops[j]? with
  | some o=>!(QA ops o).contains d||anc ops i j||anc ops j i
  | none=>true
 | none=>true
def effOk (ops:Array Oper):Bool:=(List.range ops.size).all fun j=>match ops[j]? with
 | some o=>!isE o||(List.range j).all fun i=>match ops[i]? with
  | some o'=>!isE o'||anc ops i j
  | none=>true
 | none=>true
def zDb (ops:Array Oper):Bool:=edgesOk ops&&tmpsOk ops&&effOk ops

section
variable {ops:Array Oper}

theorem edgesOk.spec (h:edgesOk ops = true) {j:Nat} {o:Oper} (ho:ops[j]? = some o) {e:Edge} (he:e ∈ o.after.toList) (hb:Region.binds .any e = true):e.on < j:=by
 have:=List.all_eq_true.1 h j (by simpa using (Array.getElem?_eq_some_iff.1 ho).1);simp only [ho] at this;have:=List.all_eq_true.1 this e he;simpa [hb] using this
theorem zFY (h:edgesOk ops = true) {i:Nat}:∀ (j:Nat),anc ops i j = true->i < j:=by
 intro j
 induction j using Nat.strongRecOn with
 | _ j ih =>
  intro ha;obtain ⟨o,ho,e,he,hb,h1⟩:=QH ha;have hlt:=edgesOk.spec h ho he hb;rcases h1 with h1 | h1
  ·omega
  ·have:=ih _ hlt h1;omega
theorem tmpsOk.spec (h:tmpsOk ops = true) {i j d:Nat} {o:Oper} (hi:(ops[i]?).bind (·.dst) = some d) (hj:ops[j]? = some o) (hne:i≠j) (hd:d ∈ QA ops o):anc ops i j = true\/anc ops j i = true:=by
 have hlt:i < ops.size:=by
  cases hq:ops[i]? with
  | none=>simp [hq] at hi
  | some x=>exact (Array.getElem?_eq_some_iff.1 hq).1
 have:=List.all_eq_true.1 h i (by simpa using hlt);simp only [hi] at this;have:=List.all_eq_true.1 this j (by simpa using (Array.getElem?_eq_some_iff.1 hj).1);simp only [hj,Bool.or_eq_true,beq_iff_eq] at this;rcases this with h1 | (h1 | h1) | h1
 ·exact absurd h1 hne
 ·simp only [Bool.not_eq_true',List.contains_eq_mem,decide_eq_false_iff_not] at h1;exact absurd hd h1
 ·exact .inl h1
 ·exact .inr h1
theorem effOk.spec (h:effOk ops = true) {i j:Nat} {o o':Oper} (hj:ops[j]? = some o) (hi:ops[i]? = some o') (hlt:i < j) (h1:isE o = true) (h2:isE o' = true):anc ops i j = true:=by
 have:=List.all_eq_true.1 h j (by simpa using (Array.getElem?_eq_some_iff.1 hj).1);simp only [hj,h1,Bool.not_true,Bool.false_or] at this;have:=List.all_eq_true.1 this i (by simpa using hlt);simpa [hi,h2] using this

/-! ### the run in the order of the text -/
noncomputable def X3 (ops:Array Oper) (Ts:Nat->Tm) (Ss:Nat->St) (i:Nat) (o:Oper):Log:=⟨i,if isE o then [] else reads o (Ts i),if isE o then some (Ss i,Ss (i + 1)) else none⟩

structure TStep (Y:Sys) (fid:Nat) (call:Nat->List HV->St->Option (HV × St)) (ops:Array Oper) (base:Nat) (Ts:Nat->Tm) (Ss:Nat->St) (vs:Nat->HV) (i:Nat) (o:Oper):Prop where
 tm:Ts (i + 1) = put (Ts i) o.dst (vs i)
 yes:yA ops o (Ts i) = true->cop Y fid call (some (base + i)) o (Ts i) (Ss i) = some (vs i,Ss (i + 1))/\Zt o (Ts i) (base + i) (Ss i) (Ss (i + 1))
 no:yA ops o (Ts i) = false->vs i = .tup []/\Ss (i + 1) = Ss i

theorem UJ {Y:Sys} {fid:Nat} {call:Nat->List HV->St->Option (HV × St)} {base:Nat}:∀ (rest:List Oper) (i:Nat) (L:List Log) (T:Tm) (S:St) (T':Tm) (S':St),uY Y fid call ops base i rest L T S = some (T',S') ->
  ∃ Ts Ss vs,Ts i = T/\Ss i = S/\Ts (i + rest.length) = T'/\Ss (i + rest.length) = S' /\
   (∀ j o,rest[j]? = some o->TStep Y fid call ops base Ts Ss vs (i + j) o) /\
   (∀ j o,rest[j]? = some o->yA ops o (Ts (i + j)) = true->∀ x ∈ L,Z6 ops x (X3 ops Ts Ss (i + j) o)) /\
   (∀ j j' o o',j < j'->rest[j]? = some o->rest[j']? = some o'->yA ops o (Ts (i + j)) = true->yA ops o' (Ts (i + j')) = true->Z6 ops (X3 ops Ts Ss (i + j) o) (X3 ops Ts Ss (i + j') o')):=by
 intro rest
 induction rest with
 | nil =>
  intro i L T S T' S' h;simp only [uY,Option.some.injEq,Prod.mk.injEq] at h;exact ⟨fun _=>T,fun _=>S,fun _=>.tup [],rfl,rfl,h.1,h.2,by simp,by simp,by simp⟩
 | cons o rest ih =>
  intro i L T S T' S' h;have main:∀ (v:HV) (S1:St) (L1:List Log),uY Y fid call ops base (i + 1) rest L1 (put T o.dst v) S1 = some (T',S')->(∀ x ∈ L,x ∈ L1) ->
    (yA ops o T = true->cop Y fid call (some (base + i)) o T S = some (v,S1)/\Zt o T (base + i) S S1/\(∀ x ∈ L,Z6 ops x ⟨i,if isE o then [] else reads o T,if isE o then some (S,S1) else none⟩) /\
     (⟨i,if isE o then [] else reads o T,if isE o then some (S,S1) else none⟩:Log) ∈ L1) ->
    (yA ops o T = false->v = .tup []/\S1 = S) ->
    ∃ Ts Ss vs,Ts i = T/\Ss i = S/\Ts (i + (o :: rest).length) = T'/\Ss (i + (o :: rest).length) = S' /\
   (∀ j o_1,(o :: rest)[j]? = some o_1->TStep Y fid call ops base Ts Ss vs (i + j) o_1) /\
   (∀ j o_1,(o :: rest)[j]? = some o_1->yA ops o_1 (Ts (i + j)) = true->∀ x ∈ L,Z6 ops x (X3 ops Ts Ss (i + j) o_1)) /\
   (∀ j j' o_1 o',j < j'->(o :: rest)[j]? = some o_1->(o :: rest)[j']? = some o'->yA ops o_1 (Ts (i + j)) = true->yA ops o' (Ts (i + j')) = true->Z6 ops (X3 ops Ts Ss (i + j) o_1) (X3 ops Ts Ss (i + j') o')):=by
   intro v S1 L1 h1 hL hyes hno;obtain ⟨Ts,Ss,vs,a1,a2,a3,a4,a5,a6,a7⟩:=ih (i + 1) L1 _ _ T' S' h1;refine ⟨fun k=>if k = i then T else Ts k,fun k=>if k = i then S else Ss k,fun k=>if k = i then v else vs k,by simp,by simp,?_,?_,?_,?_,?_⟩
   ·simp only [List.length_cons,show ¬ i + (rest.length + 1) = i by omega,if_false];rw [<- a3];congr 1;omega
   ·simp only [List.length_cons,show ¬ i + (rest.length + 1) = i by omega,if_false];rw [<- a4];congr 1;omega
   ·intro j o' hj;cases j with
    | zero =>
     simp only [List.getElem?_cons_zero,Option.some.injEq] at hj;subst hj;refine ⟨by simp [a1],fun hw=>?_,fun hw=>?_⟩
     ·simp only [Nat.add_zero,if_true] at hw;obtain ⟨b1,b2,_⟩:=hyes hw;simp [a2];exact ⟨b1,b2⟩
     ·simp only [Nat.add_zero,if_true] at hw;simp [a2];exact hno hw
    | succ j =>
     have:=a5 j o' (by simpa using hj);have e1:i + (j + 1) = i + 1 + j:=by omega
     rw [e1];refine ⟨?_,fun hw=>?_,fun hw=>?_⟩
     ·rw [if_neg (show ¬ i + 1 + j + 1 = i by omega),if_neg (show ¬ i + 1 + j = i by omega),if_neg (show ¬ i + 1 + j = i by omega)];exact this.tm
     ·simp only [show ¬ i + 1 + j = i by omega,show ¬ i + 1 + j + 1 = i by omega,if_false] at hw ⊢;exact this.yes hw
     ·simp only [show ¬ i + 1 + j = i by omega,show ¬ i + 1 + j + 1 = i by omega,if_false] at hw ⊢;exact this.no hw
   ·intro j o' hj hw x hx;cases j with
    | zero =>
     simp only [List.getElem?_cons_zero,Option.some.injEq] at hj;subst hj;simp only [Nat.add_zero,if_true] at hw;have:=(hyes hw).2.2.1 x hx;simpa [X3,a2] using this
    | succ j =>
     have e1:i + (j + 1) = i + 1 + j:=by omega
     rw [e1] at hw ⊢;simp only [show ¬ i + 1 + j = i by omega,if_false] at hw;have:=a6 j o' (by simpa using hj) hw x (hL x hx);simpa only [X3,show ¬ i + 1 + j = i by omega,show ¬ i + 1 + j + 1 = i by omega,if_false] using this
   ·intro j j' o1 o' hlt hj hj' hw hw';cases j' with
    | zero=>omega
    | succ j' =>
     have e1:i + (j' + 1) = i + 1 + j':=by omega
     rw [e1] at hw' ⊢;simp only [show ¬ i + 1 + j' = i by omega,if_false] at hw';cases j with
     | zero =>
      simp only [List.getElem?_cons_zero,Option.some.injEq] at hj;subst hj;simp only [Nat.add_zero,if_true] at hw;have:=a6 j' o' (by simpa using hj') hw' _ (hyes hw).2.2.2;simpa [X3,a2,show ¬ i + 1 + j' = i by omega,show ¬ i + 1 + j' + 1 = i by omega] using this
     | succ j =>
      have e2:i + (j + 1) = i + 1 + j:=by omega
      rw [e2] at hw ⊢;simp only [show ¬ i + 1 + j = i by omega,if_false] at hw;have:=a7 j j' o1 o' (by omega) (by simpa using hj) (by simpa using hj') hw hw';simpa only [X3,show ¬ i + 1 + j = i by omega,show ¬ i + 1 + j + 1 = i by omega,show ¬ i + 1 + j' = i by omega,show ¬ i + 1 + j' + 1 = i by omega,if_false] using this
  simp only [uY] at h
  split at h
  ·rename_i hw
   split at h
   ·rename_i v S1 hc
    by_cases hq:Zt o T (base + i) S S1/\∀ x ∈ L,Z6 ops x ⟨i,if isE o then [] else reads o T,if isE o then some (S,S1) else none⟩
    ·rw [if_pos hq] at h;exact main v S1 _ h (fun x hx=>by simp [hx]) (fun _=>⟨hc,hq.1,hq.2,by simp⟩) (fun hf=>by rw [hf] at hw;cases hw)
    ·rw [if_neg hq] at h;cases h
   ·cases h
  ·rename_i hw;exact main (.tup []) S L h (fun x hx=>hx) (fun hf=>absurd hf hw) (fun _=>⟨rfl,rfl⟩)

end
end Go.Proofs.XVai
end
section
namespace Go.Proofs.XVai
open Go

def Z9 (ops:Array Oper) (i:Nat):Option Tmp:=(ops[i]?).bind (·.dst)

def Last (ops:Array Oper) (Ts:Nat->Tm) (vs:Nat->HV) (D:Nat->Prop) (t:Nat) (v:HV):Prop :=
 (∃ i,D i/\Z9 ops i = some t/\(∀ i',D i'->Z9 ops i' = some t->i'<=i)/\v = vs i)\/((∀ i,D i->Z9 ops i≠some t)/\v = Ts 0 t)

section
variable {ops:Array Oper} {Ts:Nat->Tm} {vs:Nat->HV} {D D':Nat->Prop} {t:Nat} {v v':HV}

theorem Last.uniq (h:Last ops Ts vs D t v) (k:Last ops Ts vs D t v'):v = v':=by
 rcases h with ⟨i,h1,h2,h3,h4⟩ | ⟨h1,h2⟩ <;> rcases k with ⟨j,k1,k2,k3,k4⟩ | ⟨k1,k2⟩
 ·have:=h3 j k1 k2;have:=k3 i h1 h2;have e:i = j:=by omega
  rw [h4,k4,e]
 ·exact absurd h2 (k1 i h1)
 ·exact absurd k2 (h1 j k1)
 ·rw [h2,k2]
theorem Last.congr (hD:∀ i,Z9 ops i = some t->(D i ↔ D' i)) (h:Last ops Ts vs D t v):Last ops Ts vs D' t v:=by
 rcases h with ⟨i,h1,h2,h3,h4⟩ | ⟨h1,h2⟩
 ·exact .inl ⟨i,(hD i h2).1 h1,h2,fun i' a b=>h3 i' ((hD i' b).2 a) b,h4⟩
 ·exact .inr ⟨fun i a b=>h1 i ((hD i b).2 a) b,h2⟩
theorem Last.trace (hst:∀ (i:Nat) (o:Oper),ops[i]? = some o->Ts (i + 1) = Go.Proofs.XVai.put (Ts i) o.dst (vs i)):∀ j,j<=ops.size->Last ops Ts vs (fun i=>i < j) t (Ts j t):=by
 intro j
 induction j with
 | zero=>intro _;exact .inr ⟨fun i h=>by omega,rfl⟩
 | succ j ih =>
  intro hj;have hlt:j < ops.size:=by omega
  have ho:ops[j]? = some ops[j]:=by simp [hlt]
  rw [hst j _ ho]
  by_cases hd:Z9 ops j = some t
  ·have hd':ops[j].dst = some t:=by simpa [Z9,ho] using hd
   refine .inl ⟨j,by omega,hd,fun i' h _=>by omega,?_⟩;simp [Go.Proofs.XVai.put,zCA,hd']
  ·have hd':ops[j].dst≠some t:=by simpa [Z9,ho] using hd
   have:Go.Proofs.XVai.put (Ts j) ops[j].dst (vs j) t = Ts j t:=by
    cases hq:ops[j].dst with
    | none=>rfl
    | some d=>simp only [Go.Proofs.XVai.put,zCA];rw [if_neg];intro e;exact hd' (by rw [hq,e])
   rw [this];exact (ih (by omega)).congr fun i hi=>⟨fun h=>by omega,fun h=>by
    rcases Nat.lt_or_ge i j with h1 | h1
    ·exact h1
    ·have:i = j:=by omega
     exact absurd (this ▸ hi) hd⟩
theorem Last.step {j:Nat} {u:HV} (h:Last ops Ts vs D t v) (hn:Z9 ops j = some t->∀ i,D i->Z9 ops i = some t->i<=j) (hu:Z9 ops j = some t->u = vs j) (hv:Z9 ops j≠some t->u = v):Last ops Ts vs (fun i=>D i\/i = j) t u:=by
 by_cases hd:Z9 ops j = some t
 ·refine .inl ⟨j,.inr rfl,hd,fun i' h1 h2=>?_,hu hd⟩;rcases h1 with h1 | h1
  ·exact hn hd i' h1 h2
  ·omega
 ·rw [hv hd];exact h.congr fun i hi=>⟨.inl,fun h=>h.resolve_right fun e=>hd (e ▸ hi)⟩
end

def Shows (x y:Option Ob):Prop:=x = y\/(y = some .dummy/\x = none)

def UpdAt (C:Nat->Option Ob) (S:St) (C':Nat->Option Ob) (S':St) (k:Nat):Prop :=
 (S'[k]? = S[k]?->C' k = C k)/\(S'[k]?≠S[k]?->Shows (C' k) (S'[k]?))/\(S'[k]?≠S[k]?->C k = S[k]?/\(C k).isSome = true)

theorem UpdAt.trans {C C1 C2:Nat->Option Ob} {S S1 S2:St} {k:Nat} (h:UpdAt C S C1 S1 k) (g:UpdAt C1 S1 C2 S2 k) (hd:C k≠some .dummy):UpdAt C S C2 S2 k:=by
 refine ⟨fun hj=>?_,fun hj=>?_,fun hj=>?_⟩
 ·by_cases he:S1[k]? = S[k]?
  ·rw [g.1 (hj.trans he.symm),h.1 he]
  ·have h2:S2[k]?≠S1[k]?:=fun e=>he (e.symm.trans hj);rcases g.2.1 h2 with h3 | ⟨h3,h4⟩
   ·rw [h3,hj];exact (h.2.2 he).1.symm
   ·have h5:=(h.2.2 he).1;rw [<- hj,h3] at h5;exact absurd h5 hd
 ·by_cases he:S2[k]? = S1[k]?
  ·rw [g.1 he,he];exact h.2.1 (fun e=>hj (he.trans e))
  ·exact g.2.1 he
 ·by_cases he:S1[k]? = S[k]?
  ·have:=g.2.2 (fun e=>hj (e.trans he));rw [h.1 he,he] at this;exact this
  ·exact h.2.2 he

structure Tr (Y:Sys) (fid:Nat) (call:Nat->List HV->St->Option (HV × St)) (ops:Array Oper) (n base:Nat) (Ts:Nat->Tm) (Ss:Nat->St) (vs:Nat->HV):Prop where
 st:∀ (i:Nat) (o:Oper),ops[i]? = some o->TStep Y fid call ops base Ts Ss vs i o
 ap:∀ (i j:Nat) (oi oj:Oper),i < j->ops[i]? = some oi->ops[j]? = some oj->yA ops oi (Ts i) = true->yA ops oj (Ts j) = true->Z6 ops (X3 ops Ts Ss i oi) (X3 ops Ts Ss j oj)
 len:∀ i,i<=ops.size->base + ops.size<=(Ss i).length
 dum:∀ i m,i<=m->m < ops.size->(Ss i)[base + m]? = some .dummy
 gr:∀ (i:Nat) (o:Oper),ops[i]? = some o->Grow (some (base + i)) (Ss i) (Ss (i + 1))
 edges:edgesOk ops = true
 tmps:tmpsOk ops = true
 effs:effOk ops = true
 opers:∀ (i:Nat) (o:Oper),ops[i]? = some o->WU n o = true

structure Inv (Y:Sys) (ops:Array Oper) (n base:Nat) (Ts:Nat->Tm) (Ss:Nat->St) (vs:Nat->HV) (C0:Nat->Option Ob) (S0:St) (D:Nat->Prop) (p:Nat) (E:Env) (C:Nat->Option Ob) (w:World) (a:Act):Prop where
 dlt:∀ i,D i->i < ops.size
 down:∀ (j:Nat) (o:Oper) (e:Edge),D j->ops[j]? = some o->e ∈ o.after.toList->Region.binds .any e = true->D e.on
 p1:∀ (i:Nat) (o:Oper),ops[i]? = some o->isE o = true->yA ops o (Ts i) = true->(D i ↔ i < p)
 pN:p<=ops.size
 tr:∀ t,∃ v,Last ops Ts vs D t v/\VRel E v (a.tmps.getD t undef)
 rel:Rel Y E C w
 slD:∀ i,D i->Shows (C (base + i)) ((Ss (max p (i + 1)))[base + i]?)
 slN:∀ i,i < ops.size->¬ D i->C (base + i) = none
 sn:∀ i,i < p->¬ D i->(Ss p)[base + i]? = (Ss (i + 1))[base + i]?
 bey:∀ k,base + ops.size<=k->Shows (C k) ((Ss p)[k]?)
 old:∀ k,k < base->UpdAt C0 S0 C (Ss p) k
 sz:a.tmps.size = n
 df:a.defers = []

section
variable {P:Program} {Y:Sys} {fid:Nat} {call:Nat->List HV->St->Option (HV × St)} {ops:Array Oper} {n base:Nat} {Ts:Nat->Tm} {Ss:Nat->St} {vs:Nat->HV} {C0:Nat->Option Ob} {S0:St}
 {D:Nat->Prop} {p:Nat} {E:Env} {C:Nat->Option Ob} {w:World} {a:Act}

theorem zGX (Ss:Nat->St) (k a:Nat):∀ b,a<=b->(∀ i,a<=i->i < b->(Ss (i + 1))[k]? = (Ss i)[k]?)->(Ss b)[k]? = (Ss a)[k]?:=by
 intro b
 induction b with
 | zero =>
  intro h _;have:a = 0:=by omega
  rw [this]
 | succ b ih =>
  intro h hs;rcases Nat.lt_or_ge b a with h1 | h1
  ·have:a = b + 1:=by omega
   rw [this]
  ·rw [hs b h1 (by omega)];exact ih h1 fun i h2 h3=>hs i h2 (by omega)

theorem Tr.quiet (H:Tr Y fid call ops n base Ts Ss vs) {i:Nat} {o:Oper} (ho:ops[i]? = some o) (hq:¬ (isE o = true/\yA ops o (Ts i) = true)) {k:Nat} (hk:k≠base + i):(Ss (i + 1))[k]? = (Ss i)[k]?:=by
 have hs:=H.st i o ho;cases hw:yA ops o (Ts i) with
 | false=>rw [(hs.no hw).2]
 | true =>
  have hE:isE o = false:=by
   cases h:isE o with
   | false=>rfl
   | true=>exact absurd ⟨h,hw⟩ hq
  exact ((hs.yes hw).2 hE).2.1 k hk

theorem Inv.anc (I:Inv Y ops n base Ts Ss vs C0 S0 D p E C w a) (hE:edgesOk ops = true) {i:Nat}:∀ j,D j->Go.Proofs.XVai.anc ops i j = true->D i:=by
 intro j
 induction j using Nat.strongRecOn with
 | _ j ih =>
  intro hj ha;obtain ⟨o,ho,e,he,hb,h1⟩:=QH ha;have hd:=I.down j o e hj ho he hb;rcases h1 with h1 | h1
  ·exact h1 ▸ hd
  ·exact ih _ (edgesOk.spec hE ho he hb) hd h1

structure Ready (ops:Array Oper) (D:Nat->Prop) (j:Nat) (o:Oper):Prop where
 op:ops[j]? = some o
 nd:¬ D j
 after:∀ e ∈ o.after.toList,Region.binds .any e = true->D e.on

theorem Ready.anc {j:Nat} {o:Oper} (R:Ready ops D j o) (I:Inv Y ops n base Ts Ss vs C0 S0 D p E C w a) (hE:edgesOk ops = true) {i:Nat} (ha:Go.Proofs.XVai.anc ops i j = true):D i:=by
 obtain ⟨o',ho,e,he,hb,h1⟩:=QH ha;rw [R.op] at ho;cases ho;have hd:=R.after e he hb;rcases h1 with h1 | h1
 ·exact h1 ▸ hd
 ·exact I.anc hE _ hd h1

theorem Ready.names {j:Nat} {o:Oper} (R:Ready ops D j o) (I:Inv Y ops n base Ts Ss vs C0 S0 D p E C w a) (H:Tr Y fid call ops n base Ts Ss vs) {t i:Nat} (ht:t ∈ QA ops o) (hi:Z9 ops i = some t):D i ↔ i < j:=by
 by_cases hij:i = j
 ·subst hij;exact ⟨fun h=>absurd h R.nd,fun h=>absurd h (by omega)⟩
 ·rcases tmpsOk.spec H.tmps hi R.op hij ht with h | h
  ·exact ⟨fun _=>zFY H.edges _ h,fun _=>R.anc I H.edges h⟩
  ·refine ⟨fun hd=>absurd (I.anc H.edges _ hd h) R.nd,fun hlt=>?_⟩;have:=zFY H.edges _ h;omega

theorem Ready.val {j:Nat} {o:Oper} (R:Ready ops D j o) (I:Inv Y ops n base Ts Ss vs C0 S0 D p E C w a) (H:Tr Y fid call ops n base Ts Ss vs) {t:Nat} (ht:t ∈ o.looksAt ops):VRel E (Ts j t) (a.tmps.getD t undef):=by
 obtain ⟨v,h1,h2⟩:=I.tr t;have h3:Last ops Ts vs (fun i=>i < j) t v:=h1.congr fun i hi=>R.names I H (List.mem_append_left _ ht) hi;have hj:j < ops.size:=(Array.getElem?_eq_some_iff.1 R.op).1;have h4:=Last.trace (t:=t) (fun i o ho=>(H.st i o ho).tm) j (by omega);rw [<- h3.uniq h4];exact h2

theorem Ready.wanted {j:Nat} {o:Oper} (R:Ready ops D j o) (I:Inv Y ops n base Ts Ss vs C0 S0 D p E C w a) (H:Tr Y fid call ops n base Ts Ss vs):Region.wanted o (yielded ops a.tmps) = yA ops o (Ts j) :=
 zBP (E:=E) fun g want d hg hd=>R.val I H (by unfold Oper.looksAt;rw [hg];simp [hd])

theorem Ready.opnd {j:Nat} {o:Oper} (R:Ready ops D j o) (I:Inv Y ops n base Ts Ss vs C0 S0 D p E C w a) (H:Tr Y fid call ops n base Ts Ss vs):∀ x ∈ o.op.operands.toList,VRel E (ev (Ts j) x) (a.eval x):=by
 intro x hx;have ho:=H.opers j o R.op;simp only [WU,Bool.and_eq_true] at ho;refine Qx (fun t ht=>R.val I H ?_) (List.all_eq_true.1 ho.1 x hx);subst ht;exact List.mem_append_left _ (List.mem_filterMap.2 ⟨.tmp t,hx,rfl⟩)

theorem Ready.dlt {j:Nat} {o:Oper} (R:Ready ops D j o):j < ops.size:=(Array.getElem?_eq_some_iff.1 R.op).1

theorem Inv.tmps (I:Inv Y ops n base Ts Ss vs C0 S0 D p E C w a) (H:Tr Y fid call ops n base Ts Ss vs) {j:Nat} {o:Oper} (R:Ready ops D j o) {E':Env} (hE:E.le E') {v:Value} (hv:VRel E' (vs j) v) (t:Nat) :
  ∃ u,Last ops Ts vs (fun i=>D i\/i = j) t u/\VRel E' u ((a.put o.dst v).tmps.getD t undef):=by
 obtain ⟨u,h1,h2⟩:=I.tr t;have hd:Z9 ops j = o.dst:=by simp [Z9,R.op]
 have hlt:∀ d,o.dst = some d->d < a.tmps.size:=fun d hd=>by
  have ho:=H.opers j o R.op;simp only [WU,Bool.and_eq_true,hd] at ho;rw [I.sz];simpa using ho.2
 by_cases ht:o.dst = some t
 ·refine ⟨vs j,h1.step (fun _ i hi hdi=>?_) (fun _=>rfl) (fun h=>absurd (hd.trans ht) h),?_⟩
  ·have:=(R.names I H (t:=t) (i:=i) (by simp [QA,ht]) hdi).1 hi;omega
  ·rw [ht,Qz a t t v (hlt t ht),if_pos rfl];exact hv
 ·refine ⟨u,h1.step (fun h=>absurd (hd ▸ h) ht) (fun h=>absurd (hd ▸ h) ht) (fun _=>rfl),?_⟩;cases hq:o.dst with
  | none=>exact h2.mono hE
  | some d =>
   rw [Qz a d t v (hlt d hq),if_neg (fun e=>ht (by rw [hq,e]))];exact h2.mono hE

theorem Inv.quiet (I:Inv Y ops n base Ts Ss vs C0 S0 D p E C w a) (H:Tr Y fid call ops n base Ts Ss vs) {j:Nat} {o:Oper} (R:Ready ops D j o) (hq:¬ (isE o = true/\yA ops o (Ts j) = true))
  {E':Env} {C':Nat->Option Ob} {w':World} {v:Value} (hE:E.le E') (hv:VRel E' (vs j) v) (hR:Rel Y E' C' w') (hC:∀ k,k≠base + j->C' k = C k) (hj:Shows (C' (base + j)) ((Ss (j + 1))[base + j]?)) :
  Inv Y ops n base Ts Ss vs C0 S0 (fun i=>D i\/i = j) p E' C' w' (a.put o.dst v) where
 dlt i h:=h.elim (I.dlt i) (fun h=>h ▸ R.dlt)
 down i o' e h ho he hb:=by
  rcases h with h | h
  ·exact .inl (I.down i o' e h ho he hb)
  ·subst h;rw [R.op] at ho;cases ho;exact .inl (R.after e he hb)
 p1 i o' ho hE' hw:=by
  by_cases hij:i = j
  ·subst hij;rw [R.op] at ho;cases ho;exact absurd ⟨hE',hw⟩ hq
  ·rw [<- I.p1 i o' ho hE' hw];exact ⟨fun h=>h.resolve_right hij,.inl⟩
 pN:=I.pN
 tr:=I.tmps H R hE hv
 rel:=hR
 slD i h:=by
  by_cases hij:i = j
  ·subst hij;rcases Nat.lt_or_ge i p with h1 | h1
   ·have:max p (i + 1) = p:=by omega
    rw [this,I.sn i h1 R.nd];exact hj
   ·have:max p (i + 1) = i + 1:=by omega
    rw [this];exact hj
  ·rw [hC _ (by omega)];exact I.slD i (h.resolve_right hij)
 slN i hi h:=by
  have hij:i≠j:=fun e=>h (.inr e);rw [hC _ (by omega)];exact I.slN i hi fun h1=>h (.inl h1)
 sn i hi h:=I.sn i hi fun h1=>h (.inl h1)
 bey k hk:=by
  have:=R.dlt;rw [hC k (by omega)];exact I.bey k hk
 old k hk:=by
  have:=I.old k hk;unfold UpdAt at this ⊢;rw [hC k (by omega)];exact this
 sz:=by rw [VL];exact I.sz
 df:=by rw [put_defers];exact I.df

theorem Ready.free {j:Nat} {o:Oper} (R:Ready ops D j o) (I:Inv Y ops n base Ts Ss vs C0 S0 D p E C w a) (H:Tr Y fid call ops n base Ts Ss vs) (hE:isE o = true) (hw:yA ops o (Ts j) = true) :
  p<=j/\∀ i o',p<=i->i < j->ops[i]? = some o'->¬ (isE o' = true/\yA ops o' (Ts i) = true):=by
 refine ⟨?_,fun i o' h1 h2 ho h3=>?_⟩
 ·have:=I.p1 j o R.op hE hw;rcases Nat.lt_or_ge j p with h | h
  ·exact absurd (this.2 h) R.nd
  ·exact h
 ·have:=(I.p1 i o' ho h3.1 h3.2).1 (R.anc I H.edges (effOk.spec H.effs R.op ho h2 hE h3.1));omega

theorem Inv.over (I:Inv Y ops n base Ts Ss vs C0 S0 D p E C w a) (H:Tr Y fid call ops n base Ts Ss vs) {j:Nat} (hj:j<=ops.size) (hpj:p<=j) (hfree:∀ i o',p<=i->i < j->ops[i]? = some o'->¬ (isE o' = true/\yA ops o' (Ts i) = true)) :
  (∀ k,(∀ i,p<=i->i < j->k≠base + i)->(Ss j)[k]? = (Ss p)[k]?)/\∀ i,i < j->(Ss j)[base + i]? = (Ss (max p (i + 1)))[base + i]?:=by
 refine ⟨fun k hk=>zGX Ss k p j hpj fun i h1 h2=>?_,fun i hi=>zGX Ss _ _ j (by omega) fun i' h1 h2=>?_⟩
 ·have hlt:i < ops.size:=by omega
  exact H.quiet (o:=ops[i]) (by simp [hlt]) (hfree i _ h1 h2 (by simp [hlt])) (hk i h1 h2)
 ·have hlt:i' < ops.size:=by omega
  exact H.quiet (o:=ops[i']) (by simp [hlt]) (hfree i' _ (by omega) h2 (by simp [hlt])) (by omega)

theorem Shows.agree {x y:Option Ob} (h:Shows x y) {o:Ob} (hx:x = some o):y = some o\/y = some .dummy:=by
 rcases h with h | ⟨h,h'⟩
 ·exact .inl (h ▸ hx)
 ·rw [h'] at hx;cases hx

theorem UpdAt.agree {k:Nat} (hA:yV C0 S0 k) {S:St} (h:UpdAt C0 S0 C S k):yV C S k:=by
 intro o ho
 by_cases he:S[k]? = S0[k]?
 ·rw [h.1 he] at ho;rcases hA o ho with h2 | h2
  ·exact .inl (he.trans h2)
  ·exact .inr (he.trans h2)
 ·exact (h.2.1 he).agree ho

theorem Inv.agreeE (I:Inv Y ops n base Ts Ss vs C0 S0 D p E C w a) (H:Tr Y fid call ops n base Ts Ss vs) (hA:∀ k,yV C0 S0 k) {j:Nat} {o:Oper} (R:Ready ops D j o) (hE:isE o = true) (hw:yA ops o (Ts j) = true):∀ k,yV C (Ss j) k:=by
 obtain ⟨hpj,hfree⟩:=R.free I H hE hw;have hjl:=R.dlt;obtain ⟨ov1,ov2⟩:=I.over H (by omega) hpj hfree;intro k o' ho';rcases Nat.lt_or_ge k base with h1 | h1
 ·rw [ov1 k fun i _ _=>by omega];exact (I.old k h1).agree (hA k) o' ho'
 ·rcases Nat.lt_or_ge k (base + ops.size) with h2 | h2
  ·obtain ⟨i,rfl⟩:∃ i,k = base + i:=⟨k - base,by omega⟩
   by_cases hD:D i
   ·rcases Nat.lt_or_ge i j with h3 | h3
    ·rw [ov2 i h3];exact (I.slD i hD).agree ho'
    ·right;exact H.dum j i h3 (by omega)
   ·rw [I.slN i (by omega) hD] at ho';cases ho'
  ·rw [ov1 k fun i _ _=>by omega];exact (I.bey k h2).agree ho'

theorem Inv.beyond (I:Inv Y ops n base Ts Ss vs C0 S0 D p E C w a) (H:Tr Y fid call ops n base Ts Ss vs):∀ k,(Ss p).length<=k->C k = none:=by
 intro k hk;have:=H.len p I.pN;rcases I.bey k (by omega) with h | ⟨h,h'⟩
 ·rw [h];exact List.getElem?_eq_none hk
 ·exact h'

theorem Inv.eff (I:Inv Y ops n base Ts Ss vs C0 S0 D p E C w a) (H:Tr Y fid call ops n base Ts Ss vs) (hnd:∀ k,C0 k≠some .dummy) {j:Nat} {o:Oper} (R:Ready ops D j o) (hE:isE o = true) (hw:yA ops o (Ts j) = true)
  {E':Env} {C':Nat->Option Ob} {w':World} {v:Value} (hEE:E.le E') (hv:VRel E' (vs j) v) (hR:Rel Y E' C' w') (hU:Upd C (Ss j) C' (Ss (j + 1)) (some (base + j))) :
  Inv Y ops n base Ts Ss vs C0 S0 (fun i=>D i\/i = j) (j + 1) E' C' w' (a.put o.dst v):=by
 obtain ⟨hpj,hfree⟩:=R.free I H hE hw;have hjl:=R.dlt;obtain ⟨ov1,ov2⟩:=I.over H (by omega) hpj hfree;have hlen:=H.len j (by omega);have keepN:∀ i,i < ops.size->i≠j->¬ D i->(Ss (j + 1))[base + i]? = (Ss j)[base + i]?:=fun i hi hij hD=>by
  by_cases he:(Ss (j + 1))[base + i]? = (Ss j)[base + i]?
  ·exact he
  ·have:=(hU.u3 (base + i) (by omega) he (by simp;omega)).2;rw [I.slN i hi hD] at this;cases this
 have keepD:∀ i,j < i->i < ops.size->(Ss (j + 1))[base + i]? = (Ss j)[base + i]?:=fun i h1 h2=>by
  rw [H.dum (j + 1) i h1 h2,H.dum j i (by omega) h2]
 refine ⟨?_,?_,?_,by omega,I.tmps H R hEE hv,hR,?_,?_,?_,?_,?_,by rw [VL];exact I.sz,by rw [put_defers];exact I.df⟩
 ·exact fun i h=>h.elim (I.dlt i) (fun h=>h ▸ R.dlt)
 ·intro i o' e h ho he hb;rcases h with h | h
  ·exact .inl (I.down i o' e h ho he hb)
  ·subst h;rw [R.op] at ho;cases ho;exact .inl (R.after e he hb)
 ·intro i o' ho hE' hw';rcases Nat.lt_trichotomy i j with h | h | h
  ·exact ⟨fun _=>by omega,fun _=>.inl (R.anc I H.edges (effOk.spec H.effs R.op ho h hE hE'))⟩
  ·exact ⟨fun _=>by omega,fun _=>.inr h⟩
  ·refine ⟨fun hd=>?_,fun h'=>by omega⟩;rcases hd with hd | hd
   ·exact absurd (I.anc H.edges i hd (effOk.spec H.effs ho R.op h hE' hE)) R.nd
   ·omega
 ·intro i h;rcases Nat.lt_trichotomy i j with hij | hij | hij
  ·have hD:D i:=h.resolve_right (by omega);have hmx:max (j + 1) (i + 1) = j + 1:=by omega
   rw [hmx];have hs:Shows (C (base + i)) ((Ss j)[base + i]?):=by rw [ov2 i hij];exact I.slD i hD
   by_cases he:(Ss (j + 1))[base + i]? = (Ss j)[base + i]?
   ·rw [hU.u1 _ he,he];exact hs
   ·exact hU.u2 _ he
  ·subst hij;have hmx:max (i + 1) (i + 1) = i + 1:=by omega
   rw [hmx]
   by_cases he:(Ss (i + 1))[base + i]? = (Ss i)[base + i]?
   ·rw [hU.u1 _ he,I.slN i hjl R.nd,he,H.dum i i (Nat.le_refl _) hjl];exact .inr ⟨rfl,rfl⟩
   ·exact hU.u2 _ he
  ·have hD:D i:=h.resolve_right (by omega);have hi:=I.dlt i hD;rw [hU.u1 _ (keepD i hij hi)];have:=I.slD i hD;have e1:max p (i + 1) = i + 1:=by omega
   have e2:max (j + 1) (i + 1) = i + 1:=by omega
   rw [e1] at this;rw [e2];exact this
 ·intro i hi h;have hij:i≠j:=fun e=>h (.inr e);have hD:¬ D i:=fun h1=>h (.inl h1);rw [hU.u1 _ (keepN i hi hij hD)];exact I.slN i hi hD
 ·intro i hi h;have hij:i≠j:=fun e=>h (.inr e);have hD:¬ D i:=fun h1=>h (.inl h1);rw [keepN i (by omega) hij hD,ov2 i (by omega)];rcases Nat.lt_or_ge i p with h1 | h1
  ·have:max p (i + 1) = p:=by omega
   rw [this];exact I.sn i h1 hD
  ·have:max p (i + 1) = i + 1:=by omega
   rw [this]
 ·intro k hk;have hs:Shows (C k) ((Ss j)[k]?):=by rw [ov1 k fun i _ _=>by omega];exact I.bey k hk
  by_cases he:(Ss (j + 1))[k]? = (Ss j)[k]?
  ·rw [hU.u1 _ he,he];exact hs
  ·exact hU.u2 _ he
 ·intro k hk;have h1:UpdAt C0 S0 C (Ss j) k:=by
   have:=I.old k hk;unfold UpdAt at this ⊢;rw [ov1 k fun i _ _=>by omega];exact this
  refine h1.trans ⟨hU.u1 k,hU.u2 k,fun he=>hU.u3 k (by omega) he (by simp;omega)⟩ (hnd k)

theorem Inv.agreeN (I:Inv Y ops n base Ts Ss vs C0 S0 D p E C w a) (H:Tr Y fid call ops n base Ts Ss vs) (hA:∀ k,yV C0 S0 k) {j:Nat} {o:Oper} (R:Ready ops D j o) (hE:isE o = false) (hw:yA ops o (Ts j) = true) :
  ∀ k ∈ reads o (Ts j),yV C (Ss j) k:=by
 have hjl:=R.dlt;have hpl:=I.pN;intro k hk o' ho';have hrd:(X3 ops Ts Ss j o).reads = reads o (Ts j):=by simp [X3,hE]
 -- one step between,whichever it is
 have between:∀ i oi,ops[i]? = some oi->i≠j->((p<=i/\i < j)\/(j < i/\i < p))->k≠base + i->(Ss (i + 1))[k]? = (Ss i)[k]?:=by
  intro i oi hi hij hpos hne
  by_cases hq:isE oi = true/\yA ops oi (Ts i) = true
  ·have heff:(X3 ops Ts Ss i oi).eff = some (Ss i,Ss (i + 1)):=by simp [X3,hq.1]
   have hp1:=I.p1 i oi hi hq.1 hq.2;rcases hpos with ⟨h1,h2⟩ | ⟨h1,h2⟩
   ·have hnd:¬ D i:=fun h=>by have:=hp1.1 h;omega
    rcases H.ap i j oi o h2 hi R.op hq.2 hw with h3 | h3
    ·exact absurd (R.anc I H.edges h3) hnd
    ·exact (h3.1 _ _ heff k (by rw [hrd];exact hk)).symm
   ·have hD:D i:=hp1.2 h2;rcases H.ap j i o oi h1 R.op hi hw hq.2 with h3 | h3
    ·exact absurd (I.anc H.edges i hD h3) R.nd
    ·exact (h3.2 _ _ heff k (by rw [hrd];exact hk)).symm
  ·exact H.quiet hi hq hne
 have get:∀ i (h:i < ops.size),ops[i]? = some (ops[i]'h):=fun i h=>by simp [h]
 -- where k is no place of an operation between
 have far:(∀ i,(p<=i/\i < j)\/(j<=i/\i < p)->k≠base + i)->(Ss j)[k]? = (Ss p)[k]?:=by
  intro hne;rcases Nat.lt_or_ge j p with h | h
  ·have h1:(Ss (j + 1))[k]? = (Ss j)[k]?:=H.quiet R.op (by simp [hE]) (hne j (.inr ⟨Nat.le_refl _,h⟩));rw [<- h1];exact (zGX Ss k (j + 1) p (by omega) fun i h2 h3=>between i _ (get i (by omega)) (by omega) (.inr ⟨by omega,h3⟩) (hne i (.inr ⟨by omega,h3⟩))).symm
  ·exact zGX Ss k p j h fun i h2 h3=>between i _ (get i (by omega)) (by omega) (.inl ⟨h2,h3⟩) (hne i (.inl ⟨h2,h3⟩))
 rcases Nat.lt_or_ge k base with h1 | h1
 ·rw [far fun i _=>by omega];exact (I.old k h1).agree (hA k) o' ho'
 ·rcases Nat.lt_or_ge k (base + ops.size) with h2 | h2
  ·obtain ⟨i,rfl⟩:∃ i,k = base + i:=⟨k - base,by omega⟩
   by_cases hD:D i
   ·rcases Nat.lt_or_ge i j with h3 | h3
    ·have hs:=I.slD i hD;rcases Nat.lt_or_ge i p with h4 | h4
     ·have e:max p (i + 1) = p:=by omega
      rw [e] at hs;rw [far fun i' _=>by omega];exact hs.agree ho'
     ·have e:max p (i + 1) = i + 1:=by omega
      rw [e] at hs;rw [zGX Ss _ (i + 1) j (by omega) fun i' h5 h6=>between i' _ (get i' (by omega)) (by omega) (.inl ⟨by omega,h6⟩) (by omega)];exact hs.agree ho'
    ·right;exact H.dum j i h3 (by omega)
   ·rw [I.slN i (by omega) hD] at ho';cases ho'
  ·rw [far fun i _=>by omega];exact (I.bey k h2).agree ho'

end
end Go.Proofs.XVai
end
