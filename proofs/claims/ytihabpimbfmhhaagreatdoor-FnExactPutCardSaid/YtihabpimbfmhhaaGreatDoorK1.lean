/- The texts Ev1, Ev3, one behind the other. -/
import Derived.WalkKit
import Derived.Orders
namespace Go.Proofs.YtihabpimbfmhhaaGreatDoor.Ev
open Go Go.RowKit
theorem dT' {p : Prop} [Decidable p] (h : p) : decide p = true := decide_eq_true h
theorem dF' {p : Prop} [Decidable p] (h : ¬ p) : decide p = false := decide_eq_false h
noncomputable section
def vG {α:Type} (a:α):α:=Classical.choose (⟨a,rfl⟩: ∃x:α,x=a)
theorem jq {α:Type} (a:α):vG a=a:=Classical.choose_spec (⟨a,rfl⟩: ∃x:α,x=a)
inductive Ty where
 |int (k:IntKind)|bool|str|slice (e:Ty)|pair (a b:Ty)|unit
 deriving DecidableEq
abbrev Den:Ty→Type
 | .int _=>Int
 | .bool=>Bool
 | .str=>List UInt8
 | .slice e=>List (Den e)
 | .pair a b=>Den a×Den b
 | .unit=>Unit
inductive CT where
 |int (k:IntKind)|bool|str|slice (e:Ty)|ptr|fn|map|iface|bptr (t:Nat)
 deriving DecidableEq
def Ty.cts:Ty→List CT
 | .int k=>[.int k]
 | .bool=>[.bool]
 | .str=>[.str]
 | .slice e=>[.slice e]
 | .pair a b=>a.cts++b.cts
 | .unit=>[]
def Ty.size (t:Ty):Nat:=t.cts.length
def Den.zero:(t:Ty)→Den t
 | .int _=>(0:Int)
 | .bool=>false
 | .str=>[]
 | .slice _=>[]
 | .pair a b=>(Den.zero a,Den.zero b)
 | .unit=>()
inductive AV where
 |undef
 |int (k:IntKind) (n:Int)
 |bool (b:Bool)
 |str (s:List UInt8)
 |sh (e:Ty) (l:List (Den e)) -- a slice that is read alone
 |nil (e:Ty)
 |sel (e:Ty) (x:Den e) (off:Nat) -- the address of a cell of such a slice's element
 |ref (o ver:Nat) -- a slice of this call's own
 |ptr (o off:Nat) -- the address of a variable's cell
 |eptr (o ver:Nat) (i:Int) (off:Nat) -- the address of a cell of an own slice's element
 |nilp
 |fn (f:Nat) (cap:List AV)
 |nilfn
 |noerr
 |err
 |agg (vs:List AV)
 |tup (vs:List AV)
 |bz (t:Nat) -- a builder's own address, or none: the first cell of a block of that type
 |mp (o:Nat) -- a map
 |wref (o:Nat) (e:Ty) (n c:Nat) (i:Int) -- a row of which one element alone is looked at: that one is a variable
def CT.zero:CT→AV
 | .int k=>.int k 0
 | .bool=>.bool false
 | .str=>.str []
 | .slice e=>.nil e
 | .ptr=>.nilp
 | .fn=>.nilfn
 | .map=>.undef
 | .iface=>.noerr
 | .bptr t=>.bz t
inductive Ob where
 |var (cs:List AV)
 |arr (e:Ty) (ver:Nat) (frz:Bool) (l:List (Den e))
 |map (kt vt:Ty) (ag:Bool) (l:List (Den kt×Den vt))
structure St where
 env:List AV
 objs:List (Nat×Ob)
def getS:List AV→Nat→AV
 | [],_=>.undef
 |a::_,0=>a
 |_::l,n+1=>getS l n
def putS:List AV→Nat→AV→List AV
 | [],_,_=>[]
 |_::l,0,v=>v::l
 |a::l,n+1,v=>a::putS l n v
def getO:List (Nat×Ob)→Nat→Option Ob
 | [],_=>none
 |(k,x)::l,o=>if k=o then some x else getO l o
def putO:List (Nat×Ob)→Nat→Ob→List (Nat×Ob)
 | [],o,x=>[(o,x)]
 |(k,y)::l,o,x=>if k=o then(o,x)::l else if o<k then(o,x)::(k,y)::l else(k,y)::putO l o x
inductive Cmd where
 |done
 |fail
 |getS (n:Nat) (k:AV→Cmd)
 |putS (n:Nat) (v:AV) (k:Cmd)
 |getO (o:Nat) (k:Ob→Cmd)
 |putO (o:Nat) (x:Ob) (k:Cmd)
 |newO (o:Nat) (x:Ob) (k:Cmd)
 |ite (b:Bool) (x y:Cmd)
abbrev chk (b:Bool) (c:Cmd):Cmd:=.ite b c .fail
def Cmd.run {R:Type}:Cmd→St→(St→Option R)→Option R
 | .done,st,k=>k st
 | .fail,_,_=>none
 | .getS n c,st,k=>(c (Ev.getS st.env n)).run st k
 | .putS n v c,st,k=>c.run {st with env:=Ev.putS st.env n v} k
 | .getO o c,st,k=>match Ev.getO st.objs o with|some x=>(c x).run st k|none=>none
 | .putO o x c,st,k=>match Ev.getO st.objs o with|some _=>c.run {st with objs:=Ev.putO st.objs o x} k|none=>none
 | .newO o x c,st,k=>match Ev.getO st.objs o with|some _=>none|none=>c.run {st with objs:=Ev.putO st.objs o x} k
 | .ite b x y,st,k=>match b with|true=>x.run st k|false=>y.run st k
inductive Ac where
 |rS (n:Nat)|wS (n:Nat)|rO (o:Nat)|wO (o:Nat)
 deriving DecidableEq
def vH:AV→AV→Bool
 | .ref i v,.ref j u=>decide (i=j)&&decide (v=u)
 | .ptr i v,.ptr j u=>decide (i=j)&&decide (v=u)
 | .mp i,.mp j=>decide (i=j)
 |_,_=>false
def Mt:List AV→List AV→Bool
 | [],[]=>true
 |a::l,b::m=>match vH a b with|true=>Mt l m|false=>false
 |_,_=>false
def Hu:Ob→Ob→Bool
 | .var l,.var m=>Mt l m
 |_,_=>false
def acP (o:Nat) (y x:Ob):Ac:=match Hu y x with|true=>.rO o|false=>.wO o
def acS (l:List (Nat×Ob)) (o:Nat) (x:Ob):Ac:=match getO l o with|some y=>acP o y x|none=>.wO o
def Cmd.runT {R:Type}:Cmd→St→List Ac→(St→List Ac→Option R)→Option R
 | .done,st,t,k=>k st t
 | .fail,_,_,_=>none
 | .getS n c,st,t,k=>(c (Ev.getS st.env n)).runT st (.rS n::t) k
 | .putS n v c,st,t,k=>c.runT {st with env:=Ev.putS st.env n v} (.wS n::t) k
 | .getO o c,st,t,k=>match Ev.getO st.objs o with|some x=>(c x).runT st (.rO o::t) k|none=>none
 | .putO o x c,st,t,k=>match Ev.getO st.objs o with|some y=>c.runT {st with objs:=Ev.putO st.objs o x} (acP o y x::t) k|none=>none
 | .newO o x c,st,t,k=>match Ev.getO st.objs o with|some _=>none|none=>c.runT {st with objs:=Ev.putO st.objs o x} (.wO o::t) k
 | .ite b x y,st,t,k=>match b with|true=>x.runT st t k|false=>y.runT st t k
structure Ctx where
 P:Program
 /-- A type's cells; whether its values are written as rows of cells (structs, arrays). -/
 lay:TypeId→Option (List CT×Bool)
 /-- A struct type's field: where it begins, and its type. -/
 fld:TypeId→Nat→Option (Nat×TypeId)
 /-- A slice type's elements: their type, the same as plain values, and their bytes. -/
 elt:TypeId→Option (TypeId×Ty×Nat)
 /-- An array type's length and elements' type. -/
 arr:TypeId→Option (Nat×TypeId)
 /-- A map type's keys and values: the keys' type, both as plain values, and whether a value is a row of cells. -/
 mpt:TypeId→Option (TypeId×TypeId×Ty×Ty×Bool)
 /-- A struct type whose fields are numbers, bools and strings, one cell each. -/
 flat:TypeId→Option (List CT)
 /-- What is known of the blocks below 'g0' (the program's own variables). -/
 G:World→Prop
 g0:Nat
structure Opt where
 cons:List Nat:=[]
 keepNil:Bool:=false
 mutF:List Nat:=[]
 live:List (Nat×List Nat):=[]
 outs:List (Nat×List Nat):=[]
 split:Bool:=false
 /-- Slots in which a nil slice is one that is only read, from a loop on. -/
 shn:List Nat:=[]
def ac:Int→Int:=vG wrap64
def wk8:Int→Int:=vG fun n=>n % 256
def wkk:IntKind→Int→Int:=vG fun k n=>k.wrap n
theorem Hv (n:Int):ac n=wrap64 n:=by unfold ac;rw [jq]
theorem OH (n:Int):wk8 n=n % 256:=by unfold wk8;rw [jq]
theorem nt (k:IntKind) (n:Int):wkk k n=k.wrap n:=by unfold wkk;rw [jq]
def ib:IntKind→Int→Int
 | .i64,n=>ac n
 | .u8,n=>wk8 n
 |k,n=>wkk k n
def cL:(t:Ty)→Den t→List AV
 | .int k,n=>[.int k n]
 | .bool,b=>[.bool b]
 | .str,s=>[.str s]
 | .slice e,l=>[.sh e l]
 | .pair a b,x=>cL a x.1++cL b x.2
 | .unit,_=>[]
def cM:(t:Ty)→List AV→Option (Den t×List AV)
 | .int k,.int k' n::r=>if k=k' then some (n,r)else none
 | .bool,.bool b::r=>some (b,r)
 | .str,.str s::r=>some (s,r)
 | .slice e,.sh e' l::r=>if h:e'=e then some (h▸l,r)else none
 | .slice e,.nil e'::r=>if e'=e then some (([]:List (Den e)),r)else none
 | .pair a b,cs=>match cM a cs with
   |some (x,cs')=>match cM b cs' with
    |some (y,r)=>some ((x,y),r)
    |none=>none
   |none=>none
 | .unit,r=>some ((),r)
 |_,_=>none
def dg (t:Ty) (cs:List AV):Option (Den t):=
 match cM t cs with|some (x,[])=>some x|_=>none
def lvs:AV→Option (List AV)
 | .agg vs=>some vs
 | .tup _| .undef| .bz _=>none
 |v=>some [v]
def mkv (agg:Bool) (cs:List AV):Option AV:=
 match agg with
 |true=>some (.agg cs)
 |false=>match cs with| [v]=>some v|_=>none
def sub {α:Type} (l:List α) (off n:Nat):List α:=(l.drop off).take n
def nu {α:Type}:List α→List α→List α
 |l,[]=>l
 | [],_=>[]
 |_::l,v::vs=>v::nu l vs
def spl {α:Type}:List α→Nat→List α→List α
 |l,0,vs=>nu l vs
 | [],_,_=>[]
 |a::l,n+1,vs=>a::spl l n vs
def PW:List AV→Bool
 | .bz _::_=>false
 |_=>true
variable (K:Ctx)
def cst (t:TypeId):Value→AV
 | .int k n=>.int k n
 | .bool b=>.bool b
 | .string s=>.str s.data.toList
 | .slice none 0 0=>match K.elt t with|some (_,e,_)=>.nil e|none=>.undef
 | .pointer none=>.nilp
 | .nilFunc=>.nilfn
 | .nilIface=>.noerr
 |_=>.undef
def opd (t:TypeId) (x:Operand) (k:AV→Cmd):Cmd:=
 match x with
 | .tmp s=>.getS s k
 | .const v=>k (cst K t v)
 | .func f=>k (.fn f [])
 | .global _=>k .undef
def Hw:List TypeId→List Operand→(List AV→Cmd)→Cmd
 |t::ts,x::xs,k=>opd K t x fun v=>Hw ts xs fun vs=>k (v::vs)
 | [],x::xs,k=>opd K 0 x fun v=>Hw [] xs fun vs=>k (v::vs)
 |_,[],k=>k []
def UV (op:BinOp) (k:IntKind) (a b:Int):Option Int:=
 match op with
 | .and=>some (wkk k (BitVec.ofInt k.bits a&&& BitVec.ofInt k.bits b).toNat)
 | .or=>some (wkk k (BitVec.ofInt k.bits a|||BitVec.ofInt k.bits b).toNat)
 | .xor=>some (wkk k (BitVec.ofInt k.bits a^^^BitVec.ofInt k.bits b).toNat)
 | .andNot=>some (wkk k (BitVec.ofInt k.bits a&&& ~~~BitVec.ofInt k.bits b).toNat)
 |_=>none
def cpl (k:IntKind) (n:Int):Int:=wkk k (BitVec.ofInt k.bits (if k.signed then-1 else k.max)^^^BitVec.ofInt k.bits n).toNat
def leq:CT→AV→AV→Option Bool
 | .int _,.int k a,.int k' b=>if k=k' then some (decide (a=b))else none
 | .bool,.bool a,.bool b=>some (a==b)
 | .str,.str a,.str b=>some (decide (a=b))
 |_,_,_=>none
def Rd:List CT→List AV→List AV→Option Bool
 | [],[],[]=>some true
 |c::cs,a::as,b::bs=>match leq c a b,Rd cs as bs with
  |some x,some y=>some (x&&y)
  |_,_=>none
 |_,_,_=>none
def isC:Operand→Bool
 | .const _=>true
 |_=>false
def eqv (op:BinOp) (b:Bool) (k:AV→Cmd):Cmd:=
 match op with
 | .eql=>k (.bool b)
 | .neq=>k (.bool (!b))
 |_=>.fail
def TZ (t:TypeId) (c:Bool) (op:BinOp) (x y:AV) (k:AV→Cmd):Cmd:=
 match K.lay t with
 |some ([.bool],false)=>(match x,y with
  | .bool a,.bool b=>eqv op (a==b) k
  |_,_=>.fail)
 |some ([.iface],false)=>(match c,x,y with
  |true,.noerr,.noerr=>eqv op true k
  |true,.err,.noerr=>eqv op false k
  |_,_,_=>.fail)
 |some ([.ptr],false)=>(match x,y with
  | .nilp,.nilp=>eqv op true k
  | .ptr _ _,.nilp=>eqv op false k
  |_,_=>.fail)
 |some ([.slice _],false)=>(match x,y with
  | .nil _,.nil _=>eqv op true k
  | .ref o ver,.nil _=>.getO o fun
    | .arr _ ver' _ (_::_)=>if ver=ver' then eqv op false k else .fail
    |_=>.fail
  |_,_=>.fail)
 |_=>.fail
def vI (t:TypeId) (c:Bool) (op:BinOp) (x y:AV) (k:AV→Cmd):Cmd:=
 match x,y with
 | .int ki a,.int kj b=>match op with
   | .shl=>chk (!decide (b<0))<|k (.int ki (ib ki (a*2^(min b.toNat ki.bits))))
   | .shr=>chk (!decide (b<0))<|k (.int ki (a.fdiv (2^(min b.toNat ki.bits))))
   |_=>if ki=kj then(match op with
    | .add=>k (.int ki (ib ki (a+b)))
    | .sub=>k (.int ki (ib ki (a-b)))
    | .mul=>k (.int ki (ib ki (a*b)))
    | .quo=>chk (!decide (b=0))<|k (.int ki (ib ki (a.tdiv b)))
    | .rem=>chk (!decide (b=0))<|k (.int ki (a.tmod b))
    | .eql=>k (.bool (decide (a=b)))
    | .neq=>k (.bool (!decide (a=b)))
    | .lss=>k (.bool (decide (a<b)))
    | .leq=>k (.bool (decide (a≤b)))
    | .gtr=>k (.bool (decide (b<a)))
    | .geq=>k (.bool (decide (b≤a)))
    |_=>match UV op ki a b with|some n=>k (.int ki n)|none=>.fail)else .fail
 | .str a,.str b=>match op with
   | .add=>chk (decide (a.length+b.length≤9223372036854775807))<|k (.str (a++b))
   | .eql=>k (.bool (decide (a=b)))
   | .neq=>k (.bool (!decide (a=b)))
   | .lss=>k (.bool (Op.bytesLess a b))
   | .leq=>k (.bool (Op.bytesLess a b||decide (a=b)))
   | .gtr=>k (.bool (!(Op.bytesLess a b||decide (a=b))))
   | .geq=>k (.bool (!Op.bytesLess a b))
   |_=>.fail
 | .agg a,.agg b=>match K.flat t with
   |some cs=>(match Rd cs a b with|some r=>eqv op r k|none=>.fail)
   |none=>.fail
 |x,y=>TZ K t c op x y k
def au (s:List UInt8) (i:Int):Int:=((s.getD i.toNat 0).toNat:Int)
def cut {α:Type} (l:List α) (lo hi:Int):List α:=(l.take hi.toNat).drop lo.toNat
def bytesOf (s:List UInt8):List Int:=s.map fun c=>(c.toNat:Int)
def bx (l:List Int):List UInt8:=l.map fun n=>UInt8.ofNat n.toNat
mutual
def AV.ids:AV→List Nat
 | .ref o _=>[o]
 | .ptr o _=>[o]
 | .eptr o _ _ _=>[o]
 | .mp o=>[o]
 | .wref o _ _ _ _=>[o]
 | .fn _ cap=>AV.idss cap
 | .agg vs=>AV.idss vs
 | .tup vs=>AV.idss vs
 |_=>[]
def AV.idss:List AV→List Nat
 | []=>[]
 |a::l=>a.ids++AV.idss l
end
def Ob.ids:Ob→List Nat
 | .var cs=>AV.idss cs
 | .arr .. =>[]
 | .map .. =>[]
mutual
def AV.up (f g:Nat→Nat):AV→AV
 | .ref o v=>.ref (f o) (g o+v)
 | .ptr o off=>.ptr (f o) off
 | .eptr o v i off=>.eptr (f o) (g o+v) i off
 | .mp o=>.mp (f o)
 | .wref o e n c i=>.wref (f o) e n c i
 | .fn h cap=>.fn h (AV.ups f g cap)
 | .agg vs=>.agg (AV.ups f g vs)
 | .tup vs=>.tup (AV.ups f g vs)
 |a=>a
def AV.ups (f g:Nat→Nat):List AV→List AV
 | []=>[]
 |a::l=>a.up f g::AV.ups f g l
end
def Ob.up (f g:Nat→Nat) (j:Nat):Ob→Ob
 | .var cs=>.var (AV.ups f g cs)
 | .arr e v z l=>.arr e (g j+v) z l
 | .map kt vt ag l=>.map kt vt ag l
def mv (o:Nat):List (Nat×Nat)→Option Nat
 | []=>none
 |(a,n)::l=>if a=o then some n else mv o l
def kE (objs:List (Nat×Ob)) (o ver:Nat):Bool:=
 match getO objs o with|some (.arr _ v _ _)=>decide (ver=v)|_=>false
def Rn (m n v:Nat):Nat:=if n<m then(match v with|0=>0|_+1=>1)else 0
mutual
def mw (m:Nat) (ρ:List (Nat×Nat)) (objs:List (Nat×Ob)):AV→AV
 | .ref o v=>match kE objs o v with
   |true=>match mv o ρ with|some n=>.ref n (Rn m n v)|none=>.undef
   |false=>.undef
 | .ptr o off=>match mv o ρ with|some n=>.ptr n off|none=>.undef
 | .eptr o v i off=>match kE objs o v with
   |true=>match mv o ρ with|some n=>.eptr n (Rn m n v) i off|none=>.undef
   |false=>.undef
 | .mp o=>match mv o ρ with|some n=>.mp n|none=>.undef
 | .wref o e n c i=>match mv o ρ with|some q=>.wref q e n c i|none=>.undef
 | .fn g cap=>.fn g (iD m ρ objs cap)
 | .agg vs=>.agg (iD m ρ objs vs)
 | .tup vs=>.tup (iD m ρ objs vs)
 |a=>a
def iD (m:Nat) (ρ:List (Nat×Nat)) (objs:List (Nat×Ob)):List AV→List AV
 | []=>[]
 |a::l=>mw m ρ objs a::iD m ρ objs l
end
def qY (m:Nat) (ρ:List (Nat×Nat)) (objs:List (Nat×Ob)) (n:Nat):Ob→Ob
 | .var cs=>.var (iD m ρ objs cs)
 | .arr e v z l=>.arr e (Rn m n v) z l
 | .map kt vt ag l=>.map kt vt ag l
def jl:Nat→List Nat→List (Nat×Nat)
 |_,[]=>[]
 |n,o::os=>(o,n)::jl (n+1) os
def my (m:Nat) (ρ:List (Nat×Nat)) (objs:List (Nat×Ob)):Nat→List (Nat×Ob)→List Ob
 |_,[]=>[]
 |n,(_,x)::l=>qY m ρ objs n x::my m ρ objs (n+1) l
mutual
def AV.hasSh:AV→Bool
 | .sh _ _=>true
 | .sel _ _ _=>true
 | .fn _ cap=>AV.hasShs cap
 | .agg vs=>AV.hasShs vs
 | .tup vs=>AV.hasShs vs
 |_=>false
def AV.hasShs:List AV→Bool
 | []=>false
 |a::l=>a.hasSh||AV.hasShs l
end
def Ty.hasSlice:Ty→Bool
 | .slice _=>true
 | .pair a b=>a.hasSlice||b.hasSlice
 |_=>false
def Ob.hasSh:Ob→Bool
 | .var cs=>AV.hasShs cs
 | .arr _ _ z _=>z
 | .map kt vt _ _=>kt.hasSlice||vt.hasSlice
def vJ:List Ob→Bool
 | []=>false
 |x::l=>x.hasSh||vJ l
def zV (n:Nat):List Nat→Bool
 | []=>false
 |a::l=>if a=n then true else zV n l
def E6:List Nat→Bool
 | []=>true
 |a::l=> !zV a l&&E6 l
def TL (os:List Nat):List Nat→Bool
 | []=>true
 |a::l=> !zV a os&&TL os l
def Mu:Ob→Nat
 | .arr _ v _ _=>v
 | .var _=>0
 | .map .. =>0
def inL (o:Nat):List (Nat×Ob)→Bool
 | []=>false
 |(k,_)::l=>if k=o then true else inL o l
def gat:Nat→List Nat→List (Nat×Ob)→(List (Nat×Ob)→Cmd)→Cmd
 |_,[],acc,k=>k acc
 |0,_::_,_,_=>.fail
 |f+1,o::todo,acc,k=>match inL o acc with
  |true=>gat f todo acc k
  |false=>.getO o fun x=>gat f (todo++x.ids) (acc++[(o,x)]) k
def PX (a:AV) (bs:List Nat) (k:AV→List Nat→Cmd):Cmd:=
 match a with
 | .ref o ver=>.getO o fun
   | .arr e ver' _ l=>if ver=ver' then k (.sh e l) (o::bs)else .fail
   |_=>.fail
 | .nil e=>k (.sh e []) bs
 |a=>k a bs
def Mv:List AV→List Nat→(List AV→List Nat→Cmd)→Cmd
 | [],bs,k=>k [] bs
 |a::as,bs,k=>PX a bs fun a bs=>Mv as bs fun as bs=>k (a::as) bs
def TM (a:AV) (bs:List Nat) (k:AV→List Nat→Cmd):Cmd:=
 match a with
 | .agg vs=>Mv vs bs fun vs bs=>k (.agg vs) bs
 |a=>PX a bs k
def tI:List AV→List Nat→(List AV→List Nat→Cmd)→Cmd
 | [],bs,k=>k [] bs
 |a::as,bs,k=>TM a bs fun a bs=>tI as bs fun as bs=>k (a::as) bs
def PY (f g:Nat→Nat):Nat→List Nat→Nat→List Ob→Cmd→Cmd
 |_,_,_,[],k=>k
 |j,o::os,n,x::xs,k=>.putO o (x.up f g j) (PY f g (j+1) os n xs k)
 |j,[],n,x::xs,k=>.newO n (x.up f g j) (PY f g (j+1) [] (n+1) xs k)
def nv:List Nat→Cmd→Cmd
 | [],k=>k
 |o::os,k=>.getO o fun
  | .arr e v _ l=>.putO o (.arr e v true l) (nv os k)
  |_=>.fail
inductive Br where
 |ret (r:AV) (os:List Ob)
 |fail
 |ite (b:Bool) (x y:Br)
def Br.val:Br→Option (AV×List Ob)
 | .ret r os=>some (r,os)
 | .fail=>none
 | .ite b x y=>match b with|true=>x.val|false=>y.val
def Br.bind (k:AV→List Ob→Cmd):Br→Cmd
 | .ret r os=>k r os
 | .fail=>.fail
 | .ite b x y=>.ite b (x.bind k) (y.bind k)
abbrev cy:=Nat→List AV→List Ob→Br
def Mw (C:cy) (id fn:Nat) (bs:List Nat) (args:List AV) (k:AV→Cmd):Cmd:=
 gat 40 (AV.idss args) [] fun objs=>
  let os:=objs.map (·.1)
  match E6 os&&TL os bs with
  |true=>
   let ρ:=jl 0 os
   (C fn (iD 0 ρ objs args) (my 0 ρ objs 0 objs)).bind fun res objs'=>
    if os.length≤objs'.length then
     let f:=fun j=>if j<os.length then os.getD j 0 else id+(j-os.length)
     let g:=fun j=>(objs.map fun p=>Mu p.2).getD j 0
     PY f g 0 os id objs' (match res.hasSh||vJ objs' with|true=>nv bs (k (res.up f g))|false=>k (res.up f g))
    else .fail
  |false=>.fail
def Rp (C:cy) (O:Opt) (id fn:Nat) (args:List AV) (k:AV→Cmd):Cmd:=
 match zV fn O.mutF with
 |true=>Mw C id fn [] args k
 |false=>tI args [] fun args bs=>Mw C id fn bs args k
def qZ (t:TypeId) (e:Ty) (x:AV) (k:List (Den e)→Cmd):Cmd:=
 match K.elt t with
 |some (_,e0,_)=>if e0=e then(match x with
  | .sh e' l=>if h:e'=e then k (h▸l)else .fail
  | .nil e'=>if e'=e then k []else .fail
  | .ref o ver=>.getO o fun
    | .arr e' ver' z l=>if ver=ver' then(if h:e'=e then(match z|| !e.hasSlice with|true=>k (h▸l)|false=>.fail)else .fail)else .fail
    |_=>.fail
  |_=>.fail)else .fail
 |none=>.fail
def Mx (t:TypeId) (e:Ty) (x:AV) (k:List (Den e)→Cmd):Cmd:=
 match x with
 | .str s=>match K.lay t with
   |some ([.str],false)=>(match e with
    | .int .u8=>k (bytesOf s)
    |_=>.fail)
   |_=>.fail
 |x=>qZ K t e x k
def PZ (t:TypeId) (e:Ty) (x:AV) (k:List (Den e)→Nat→Cmd):Cmd:=
 match K.elt t with
 |some (_,e0,_)=>if e0=e then(match x with
  | .ref o ver=>.getO o fun
    | .arr e' ver' false l=>if ver=ver' then(if h:e'=e then k (h▸l) o else .fail)else .fail
    |_=>.fail
  |_=>.fail)else .fail
 |none=>.fail
def T0 (t:TypeId) (x:AV) (k:Nat→Cmd):Cmd:=
 match K.elt t with
 |some _=>(match x with
  | .sh _ l=>k l.length
  | .wref _ _ n _ _=>k n
  | .nil _=>k 0
  | .ref o ver=>.getO o fun
    | .arr _ ver' _ l=>if ver=ver' then k l.length else .fail
    |_=>.fail
  |_=>.fail)
 |none=>.fail
def T1 (t:TypeId) (x:AV) (k:Nat→Cmd):Cmd:=
 match x with
 | .str s=>match K.lay t with
   |some ([.str],false)=>k s.length
   |_=>.fail
 |x=>T0 K t x k
def plc (s:TypeId) (i:Nat):Option (Nat×TypeId):=
 match K.arr s with
 |some (n,te)=>match K.lay te with
  |some (ct,_)=>if i<n then some (i*ct.length,te)else none
  |none=>none
 |none=>K.fld s i
def My (s:TypeId):List (Nat×Operand)→List AV→(List AV→Cmd)→Cmd
 | [],cs,k=>k cs
 |(i,x)::ps,cs,k=>match plc K s i with
  |some (off,t)=>match K.lay t with
   |some (ct,_)=>opd K t x fun v=>match lvs v with
    |some vs=>if vs.length=ct.length∧off+vs.length≤cs.length then My s ps (spl cs off vs) k else .fail
    |none=>.fail
   |none=>.fail
  |none=>.fail
def ls:List AV→(List AV→Cmd)→Cmd
 | [],k=>k []
 |a::as,k=>match a with
  | .ref o ver=>.getO o fun
    | .arr e ver' _ l=>if ver=ver' then .putO o (.arr e ver' true l) (ls as fun as=>k (.sh e l::as))else .fail
    |_=>.fail
  |a=>ls as fun as=>k (a::as)
def kF:List AV→List Nat→(List AV→List Nat→Cmd)→Cmd
 | [],ms,k=>k [] ms
 |a::as,ms,k=>match a with
  | .ref o ver=>.getO o fun
    | .arr e ver' false l=>if ver=ver' then(match e.hasSlice||zV o ms with
      |true=>.fail
      |false=>kF as (o::ms) fun as ms=>k (.sh e l::as) ms)else .fail
    |_=>.fail
  | .sh _ _=>.fail
  |a=>kF as ms fun as ms=>k (a::as) ms
def OI:List Nat→Cmd→Cmd
 | [],k=>k
 |o::os,k=>.getO o fun
  | .arr e ver _ _=>.putO o (.arr e (ver+1) true []) (OI os k)
  |_=>.fail
def P0 (b:Bool) (vs:List AV) (ms:List Nat) (k:List AV→List Nat→Cmd):Cmd:=
 match b with
 |true=>kF vs ms k
 |false=>ls vs fun vs=>k vs ms
def zW (b:Bool) (v:AV) (k:AV→Cmd):Cmd:=
 match b with
 |true=>ls [v] fun vs=>match vs with|v::_=>k v| []=>.fail
 |false=>k v
def E7 (te:TypeId) (e:Ty):List (Nat×Operand)→List (Den e)→List Nat→(List (Den e)→List Nat→Cmd)→Cmd
 | [],l,ms,k=>k l ms
 |(i,x)::ps,l,ms,k=>opd K te x fun v=>match lvs v with
  |some vs=>P0 e.hasSlice vs ms fun vs ms=>match dg e vs with
   |some d=>if i<l.length then E7 te e ps (l.set i d) ms k else .fail
   |none=>.fail
  |none=>.fail
def q6 (len:Int) (lo hi:Option Int) (k:Int→Int→Cmd):Cmd:=
 match hi,lo with
 |none,none=>k 0 len
 |none,some l=>chk (decide (0≤l))<|chk (decide (l≤len))<|k l len
 |some h,none=>chk (decide (0≤h))<|chk (decide (h≤len))<|k 0 h
 |some h,some l=>chk (decide (0≤l))<|chk (decide (l≤h))<|chk (decide (h≤len))<|k l h
def tJ (O:Opt) (d:Nat) (t:TypeId) (x:AV) (lo hi:Option Int) (k:AV→Cmd):Cmd:=
 match K.elt t with
 |some (_,e0,_)=>(match x with
  | .sh e xs=>if e=e0 then q6 xs.length lo hi fun l h=>k (.sh e (cut xs l h))else .fail
  | .nil e=>q6 0 lo hi fun _ _=>k (.nil e)
  | .ref o ver=>.getO o fun
    | .arr e ver' z xs=>if e=e0 then(if ver=ver' then q6 xs.length lo hi fun l h=>
     (match zV d O.cons&& !z with
     |true=>.putO o (.arr e (ver+1) false (cut xs l h)) (k (.ref o (ver+1)))
     |false=>.putO o (.arr e ver true xs) (k (.sh e (cut xs l h))))
      else .fail)else .fail
    |_=>.fail
  |_=>.fail)
 |none=>.fail
def zX (O:Opt) (d:Nat) (t:TypeId) (x:AV) (lo hi:Option Int) (k:AV→Cmd):Cmd:=
 match x with
 | .str s=>match K.lay t with
   |some ([.str],false)=>q6 s.length lo hi fun l h=>k (.str (cut s l h))
   |_=>.fail
 |x=>tJ K O d t x lo hi k
def B8 (t:TypeId) (x:Option Operand) (k:Option Int→Cmd):Cmd:=
 match x with
 |none=>k none
 |some x=>opd K t x fun | .int _ n=>k (some n)|_=>.fail
def keq:(t:Ty)→Den t→Den t→Bool
 | .int _,a,b=>decide (a=b)
 | .str,a,b=>decide (a=b)
 |_,_,_=>false
def MA {kt vt:Ty} (k:Den kt):List (Den kt×Den vt)→Den vt
 | []=>Den.zero vt
 |(a,b)::l=>bif keq kt k a then b else MA k l
def E8 {kt vt:Ty} (k:Den kt):List (Den kt×Den vt)→Bool
 | []=>false
 |(a,_)::l=>bif keq kt k a then true else E8 k l
def MB {kt vt:Ty} (k:Den kt) (v:Den vt):List (Den kt×Den vt)→List (Den kt×Den vt)
 | []=>[(k,v)]
 |(a,b)::l=>bif keq kt k a then(k,v)::l else(a,b)::MB k v l
def qx {kt vt:Ty} (k:Den kt):List (Den kt×Den vt)→Nat
 | []=>0
 |(a,_)::l=>bif keq kt k a then 0 else qx k l+1
def Hx {kt vt:Ty} (v:Den vt):List (Den kt×Den vt)→Nat→List (Den kt×Den vt)
 | [],_=>[]
 |(a,_)::l,0=>(a,v)::l
 |p::l,n+1=>p::Hx v l n
def Rq (t:Ty) (ag:Bool) (v:AV):Option (Den t):=
 match ag,v with
 |true,.agg vs=>dg t vs
 |true,_=>none
 |false,.agg _=>none
 |false,v=>(match lvs v with|some vs=>dg t vs|none=>none)
def Re:(t:Ty)→AV→Option (Den t)
 | .int k,.int k' n=>if k=k' then some n else none
 | .str,.str s=>some s
 |_,_=>none
def Rf (kt vt:Ty) (ag:Bool) (x:AV) (k:Nat→List (Den kt×Den vt)→Cmd):Cmd:=
 match x with
 | .mp o=>.getO o fun
   | .map kt' vt' ag' l=>if h:kt'=kt∧vt'=vt∧ag'=ag then k o (h.1▸h.2.1▸l)else .fail
   |_=>.fail
 |_=>.fail
def op1 (C:cy) (O:Opt) (d:Nat) (T:TypeId) (op:Op) (k:AV→Cmd):Cmd:=
 let id:=64* (d+1)
 match op with
 | .move x=>opd K T x k
 | .assign x=>opd K T x fun v=>zW (zV d O.shn) v k
 | .pick c a b=>opd K T c fun
   | .bool v=>.ite v (opd K T a k) (opd K T b k)
   |_=>.fail
 | .alloc t=>match K.lay t with
   |some (cs,_)=>.newO id (.var (cs.map CT.zero)) (k (.ptr id 0))
   |none=>.fail
 | .box t x=>match K.lay t with
   |some (cs,_)=>opd K t x fun v=>match lvs v with
    |some vs=>if vs.length=cs.length∧PW vs=true then .newO id (.var vs) (k (.ptr id 0))else .fail
    |none=>.fail
   |none=>.fail
 | .build t ps=>match K.lay t with
   |some (cs,true)=>My K t ps.toList (cs.map CT.zero) fun cs=>k (.agg cs)
   |_=>.fail
 | .buildSlice t n ps=>match K.elt t with
   |some (te,e,_)=>if n*e.size≤16777216 then E7 K te e ps.toList (List.replicate n (Den.zero e)) [] fun l ms=>OI ms (.newO id (.arr e 0 false l) (k (.ref id 0)))else .fail
   |none=>.fail
 | .load t a=>match K.lay t with
   |some (cs,ag)=>opd K T a fun
    | .ptr o off=>.getO o fun
      | .var xs=>if off+cs.length≤xs.length then(match mkv ag (sub xs off cs.length)with|some v=>k v|none=>.fail)else .fail
      |_=>.fail
    | .eptr o ver i off=>.getO o fun
      | .arr e ver' z l=>if ver=ver'∧off+cs.length≤e.size then(match z|| !e.hasSlice with
        |true=>(match mkv ag (sub (cL e (l.getD i.toNat (Den.zero e))) off cs.length)with|some v=>k v|none=>.fail)
        |false=>.fail)else .fail
      |_=>.fail
    | .sel e x off=>if off+cs.length≤e.size then(match mkv ag (sub (cL e x) off cs.length)with|some v=>k v|none=>.fail)else .fail
    |_=>.fail
   |none=>.fail
 | .store t a x=>match K.lay t with
   |some (cs,_)=>opd K T a fun a=>opd K t x fun v=>match lvs v with
    |some vs=>if vs.length=cs.length then(match a with
     | .ptr o off=>.getO o fun
       | .var xs=>if off+vs.length≤xs.length∧PW vs=true then .putO o (.var (spl xs off vs)) (k .undef)else .fail
       |_=>.fail
     | .eptr o ver i off=>.getO o fun
       | .arr e ver' false l=>(match e.hasSlice with
         |false=>ls vs fun vs=>.getO o fun
          | .arr e ver' false l=>if e.hasSlice=false∧ver=ver'∧off+vs.length≤e.size then(match dg e (spl (cL e (l.getD i.toNat (Den.zero e))) off vs)with
            |some y=>.putO o (.arr e ver false (l.set i.toNat y)) (k .undef)
            |none=>.fail)else .fail
          |_=>.fail
         |true=>if ver=ver'∧off=0∧vs.length=e.size then kF vs [] fun vs ms=>(match dg e vs with
          |some y=>OI ms (.putO o (.arr e ver false (l.set i.toNat y)) (k .undef))
          |none=>.fail)else .fail)
       |_=>.fail
     |_=>.fail)else .fail
    |none=>.fail
   |none=>.fail
 | .nilCheck x=>opd K T x fun
   | .ptr o off=>k (.ptr o off)
   | .eptr o v i off=>.getO o fun
     | .arr _ v' _ _=>if v=v' then k (.eptr o v i off)else .fail
     |_=>.fail
   | .sel e y off=>k (.sel e y off)
   | .fn g cap=>k (.fn g cap)
   |_=>.fail
 | .binOp op xt x y yt=>opd K xt x fun a=>opd K yt y fun b=>vI K xt (isC x||isC y) op a b k
 | .unOp op _ x=>opd K T x fun a=>match op,a with
   | .not,.bool b=>k (.bool (!b))
   | .neg,.int ki n=>k (.int ki (ib ki (0-n)))
   | .xor,.int ki n=>k (.int ki (cpl ki n))
   |_,_=>.fail
 | .convert src dst x=>opd K src x fun
   | .int _ n=>match K.lay src,K.lay dst with
     |some ([.int _],false),some ([.int kj],false)=>k (.int kj (ib kj n))
     |_,_=>.fail
   | .str s=>match K.lay src,K.lay dst with
     |some ([.str],false),some ([.str],false)=>k (.str s)
     |some ([.str],false),_=>(match K.elt dst with
      |some (te,.int .u8,_)=>(match K.lay te with
       |some (_,false)=>.newO id (.arr (.int .u8) 0 false (bytesOf s)) (k (.ref id 0))
       |_=>.fail)
      |_=>.fail)
     |_,_=>.fail
   |x=>match K.lay dst with
    |some ([.str],false)=>(match K.elt src with
     |some (te,.int .u8,_)=>(match K.lay te with
      |some (_,false)=>qZ K src (.int .u8) x fun l=>k (.str (bx l))
      |_=>.fail)
     |_=>.fail)
    |_=>.fail
 | .fieldAddr s x f=>match K.fld s f with
   |some (n,_)=>opd K T x fun
    | .ptr o off=>k (.ptr o (off+n))
    | .eptr o v i off=>.getO o fun
      | .arr _ v' _ _=>if v=v' then k (.eptr o v i (off+n))else .fail
      |_=>.fail
    | .sel e y off=>k (.sel e y (off+n))
    |_=>.fail
   |none=>.fail
 | .field t x f=>match K.fld t f with
   |some (n,ft)=>match K.lay ft with
    |some (cs,ag)=>opd K t x fun
     | .agg xs=>if n+cs.length≤xs.length then(match mkv ag (sub xs n cs.length)with|some v=>k v|none=>.fail)else .fail
     |_=>.fail
    |none=>.fail
   |none=>.fail
 | .indexAddr t x i=>match K.elt t with
   |some (_,e0,_)=>opd K t x fun a=>opd K 3 i fun
    | .int _ n=>match a with
      | .sh e l=>if e=e0 then chk (decide (0≤n))<|chk (decide (n< (l.length:Int)))<|k (.sel e (l.getD n.toNat (Den.zero e)) 0)else .fail
      | .wref o e m _ j=>if e=e0 then chk (decide (0≤n))<|chk (decide (n< (m:Int)))<|chk (decide (n=j))<|k (.ptr o 0)else .fail
      | .ref o ver=>.getO o fun
        | .arr e ver' z l=>if e=e0 then(if ver=ver' then(chk (decide (0≤n))<|chk (decide (n< (l.length:Int)))<|match z with
          |true=>k (.sel e (l.getD n.toNat (Den.zero e)) 0)
          |false=>k (.eptr o ver n 0))else .fail)else .fail
        |_=>.fail
      |_=>.fail
    |_=>.fail
   |none=>match K.arr t with
    |some (len,te)=>(match K.lay te with
     |some (cs,_)=>opd K t x fun a=>opd K 3 i fun
      | .int _ n=>match a with
        | .ptr o off=>chk (decide (0≤n))<|chk (decide (n< (len:Int)))<|k (.ptr o (off+n.toNat*cs.length))
        |_=>.fail
      |_=>.fail
     |none=>.fail)
    |none=>.fail
 | .index t x i=>opd K t x fun a=>opd K 3 i fun
   | .int _ n=>match a with
     | .str s=>match K.lay t with
       |some ([.str],false)=>chk (decide (0≤n))<|chk (decide (n< (s.length:Int)))<|k (.int .u8 (au s n))
       |_=>.fail
     | .agg xs=>match K.arr t with
       |some (len,te)=>match K.lay te with
        |some (cs,ag)=>chk (decide (0≤n))<|chk (decide (n< (len:Int)))<|if n.toNat*cs.length+cs.length≤xs.length then(match mkv ag (sub xs (n.toNat*cs.length) cs.length)with|some v=>k v|none=>.fail)else .fail
        |none=>.fail
       |none=>.fail
     |_=>.fail
   |_=>.fail
 | .slice t x lo hi none=>opd K t x fun a=>B8 K 3 lo fun lo=>B8 K 3 hi fun hi=>zX K O d t a lo hi k
 | .makeMap t none=>match K.mpt t with
   |some (_,_,kt,vt,ag)=>.newO id (.map kt vt ag []) (k (.mp id))
   |none=>.fail
 | .lookup t x i ok=>match K.mpt t with
   |some (tk,_,kt,vt,ag)=>opd K t x fun m=>opd K tk i fun j=>Rf kt vt ag m fun _ l=>match Re kt j with
    |some key=>(match mkv ag (cL vt (MA key l))with
     |some v=>(match ok with
      |true=>k (.tup [v,.bool (E8 key l)])
      |false=>k v)
     |none=>.fail)
    |none=>.fail
   |none=>.fail
 | .mapUpdate t x i y=>match K.mpt t with
   |some (tk,tv,kt,vt,ag)=>opd K t x fun m=>opd K tk i fun j=>opd K tv y fun v=>Rf kt vt ag m fun o l=>match Re kt j,Rq vt ag v with
    |some key,some val=>.putO o (.map kt vt ag (MB key val l)) (k .undef)
    |_,_=>.fail
   |none=>.fail
 | .mapEntry t x i=>match K.mpt t with
   |some (tk,_,kt,vt,ag)=>opd K t x fun m=>opd K tk i fun j=>Rf kt vt ag m fun o l=>match Re kt j with
    |some key=>(match mkv ag (cL vt (MA key l))with
     |some v=>.putO o (.map kt vt ag (MB key (MA key l) l)) (k (.tup [v,.int .i64 (qx key l)]))
     |none=>.fail)
    |none=>.fail
   |none=>.fail
 | .entryStore t x s y=>match K.mpt t with
   |some (_,tv,kt,vt,ag)=>opd K t x fun m=>opd K 3 s fun n=>opd K tv y fun v=>Rf kt vt ag m fun o l=>match n,Rq vt ag v with
    | .int _ n,some val=>chk (decide (0≤n))<|chk (decide (n< (l.length:Int)))<| .putO o (.map kt vt ag (Hx val l n.toNat)) (k .undef)
    |_,_=>.fail
   |none=>.fail
 | .extract x i=>opd K T x fun
   | .tup vs=>match vs[i]? with|some v=>k v|none=>.fail
   |_=>.fail
 | .makeFunc (.func f) first cap=>match first.toList with
   | []=>Hw K [] cap.toList fun vs=>k (.fn f vs)
   |_=>.fail
 | .makeSlice t len cap=>match K.elt t with
   |some (_,e,b)=>opd K 3 len fun
    | .int _ n=>opd K 3 cap fun
      | .int _ c=>chk (decide (0≤n))<|chk (decide (n=c))<|chk (decide (n*b≤140737488355328))<| .newO id (.arr e 0 false (List.replicate n.toNat (Den.zero e))) (k (.ref id 0))
      |_=>.fail
    |_=>.fail
   |none=>.fail
 | .call c=>match c.callee with
   | .value f=>opd K T f fun
     | .fn g cap=>Hw K c.argTypes.toList c.args.toList fun vs=>Rp C O id g (vs++cap) k
     |_=>.fail
   | .builtin .len=>match c.argTypes.toList with
     |t::_=>Hw K c.argTypes.toList c.args.toList fun
      | [x]=>T1 K t x fun n=>k (.int .i64 n)
      |_=>.fail
     |_=>.fail
   | .builtin .min=>Hw K c.argTypes.toList c.args.toList fun
     | [.int ki a,.int _ b]=>k (.int ki (if b<a then b else a))
     |_=>.fail
   | .builtin .max=>Hw K c.argTypes.toList c.args.toList fun
     | [.int ki a,.int _ b]=>k (.int ki (if a<b then b else a))
     | [.int ki a,.int _ b,.int _ c]=>k (.int ki (if(if a<b then b else a)<c then c else(if a<b then b else a)))
     |_=>.fail
   | .builtin .append=>match c.argTypes.toList with
     | [t,t']=>match K.elt t with
       |some (_,e,b)=>Hw K c.argTypes.toList c.args.toList fun
        | [s,x]=>match e.hasSlice with
          |false=>Mx K t' e x fun xs=>(match s with
           | .nil e'=>if e'=e then(chk (decide (xs.length*b≤140737488355328))<| .newO id (.arr e 0 false xs) (k (.ref id 0)))else .fail
           | .ref o ver=>.getO o fun
             | .arr e' ver' false l=>if h:e'=e then(if ver=ver' then(chk (decide ((l.length+xs.length)*b≤140737488355328))<| .putO o (.arr e (ver+1) false ((h▸l)++xs)) (k (.ref o (ver+1))))else .fail)else .fail
             |_=>.fail
           |_=>.fail)
          |true=>PZ K t' e x fun xs o'=>(match s with
           | .nil e'=>if e'=e then(chk (decide (xs.length*b≤140737488355328))<|OI [o'] (.newO id (.arr e 0 false xs) (k (.ref id 0))))else .fail
           | .ref o ver=>.getO o fun
             | .arr e' ver' false l=>if h:e'=e then(if ver=ver'∧o≠o' then(chk (decide ((l.length+xs.length)*b≤140737488355328))<|OI [o'] (.putO o (.arr e (ver+1) false ((h▸l)++xs)) (k (.ref o (ver+1)))))else .fail)else .fail
             |_=>.fail
           |_=>.fail)
        |_=>.fail
       |none=>.fail
     |_=>.fail
   |_=>.fail
 |_=>.fail
def Mm (C:cy) (O:Opt) (lit:Bool) (all:List Oper) (o:Oper):Cmd:=
 let put (v:AV):Cmd:=match o.dst with|some d=>.putS d v .done|none=>.done
 let yes:Cmd:=op1 K C O (o.dst.getD 0) o.type o.op put
 let note (d:Nat) (b:Bool) (c:Cmd):Cmd:=match lit with|true=>.putS d (.bool b) c|false=>c
 match o.guard with
 |none=>yes
 |some (j,HG)=>match all[j]? with
  |some p=>match p.dst with
   |some d=>.getS d fun
    | .bool b=>.ite b (note d true (match HG with|true=>yes|false=>put (.tup []))) (note d false (match HG with|true=>put (.tup [])|false=>yes))
    | .tup []=>put (.tup [])
    |_=>.fail
   |none=>.fail
  |none=>.fail
inductive Ex where
 |normal|exit (id:Nat)|ret
variable {R:Type}
def OJ (C:cy) (O:Opt) (all:List Oper):List Oper→St→(St→Option R)→Option R
 | [],st,k=>k st
 |o::l,st,k=>(Mm K C O true all o).run st fun st=>OJ C O all l st k
def splitB (O:Opt) (d:Option Nat) (st:St) (k:St→Option R):Option R:=
 match O.split,d with
 |true,some d=>(match getS st.env d with
  | .bool b=>(match b with
    |true=>k ⟨putS st.env d (.bool true),st.objs⟩
    |false=>k ⟨putS st.env d (.bool false),st.objs⟩)
  |_=>k st)
 |_,_=>k st
def MC (C:cy) (O:Opt) (all:List Oper):List Oper→St→List (List Ac)→(St→List (List Ac)→Option R)→Option R
 | [],st,ts,k=>k st ts
 |o::l,st,ts,k=>(Mm K C O false all o).runT st [] fun st t=>splitB O o.dst st fun st=>MC C O all l st (ts++[t]) k
def Ac.clash:Ac→Ac→Bool
 | .rS _,.rS _=>false
 | .rS a,.wS b| .wS a,.rS b| .wS a,.wS b=>a==b
 | .rO _,.rO _=>false
 | .rO a,.wO b| .wO a,.rO b| .wO a,.wO b=>a==b
 |_,_=>false
def iE (s t:List Ac):Bool:=s.all fun a=>t.all fun b=> !a.clash b
def jr (o:Oper):List Nat:=
 o.after.toList.filterMap fun e=>match e.ground with
   | .textOnly _=>none
   | .gcOnly _=>none
   |_=>some e.on
def E9 (acc:List (List Nat)) (o:Oper):List Nat:=(jr o).flatMap fun j=>j::acc.getD j []
def vK:List Oper→List (List Nat)→Option (List (List Nat))
 | [],acc=>some acc
 |o::l,acc=>match(jr o).all fun j=>decide (j<acc.length)with
  |true=>vK l (acc++[E9 acc o])
  |false=>none
def T2:Nat→List Nat
 |0=>[]
 |n+1=>T2 n++[n]
def zY (acc:List Nat):List Nat→Nat
 | []=>0
 |j::l=>Nat.lor (Nat.lor (2^j) (acc.getD j 0)) (zY acc l)
def lu:List Oper→List Nat→Option (List Nat)
 | [],acc=>some acc
 |o::l,acc=>match(jr o).all fun j=>decide (j<acc.length)with
  |true=>lu l (acc++[zY acc (jr o)])
  |false=>none
def Ac.key:Ac→Nat
 | .rS n=>2*n
 | .wS n=>2*n
 | .rO o=>2*o+1
 | .wO o=>2*o+1
def Ac.wr:Ac→Bool
 | .rS _=>false
 | .wS _=>true
 | .rO _=>false
 | .wO _=>true
def Hy:List Ac→Nat
 | []=>0
 |a::l=>Nat.lor (2^a.key) (Hy l)
def zZ:List Ac→Nat
 | []=>0
 |a::l=>match a.wr with
  |true=>Nat.lor (2^a.key) (zZ l)
  |false=>zZ l
def kG (t:List Ac):Nat×Nat:=(Hy t,zZ t)
def vL (p q:Nat×Nat):Bool:=Nat.beq (Nat.land p.1 q.2) 0&&Nat.beq (Nat.land p.2 q.1) 0
def B9 (bits:Nat) (m:Nat×Nat):List (Nat×Nat)→Nat→Bool
 | [],_=>true
 |p::ps,i+1=>(Nat.testBit bits i||vL p m)&&B9 bits m ps i
 |_::_,0=>false
def E_:List Nat→List (List Ac)→List (Nat×Nat)→Nat→Bool
 | [],_,_,_=>true
 |bits::bs,t::ts,done,j=>B9 bits (kG t) done j&&E_ bs ts (kG t::done) (j+1)
 |_::_,[],_,_=>false
def nw (ops:List Oper) (ts:List (List Ac)):Bool:=
 match lu ops []with
 |some b=>E_ b ts [] 0
 |none=>false
def OK:List AV→List AV→List AV
 | .undef::a,_::b=>.undef::OK a b
 |_::a,x::b=>x::OK a b
 | [],b=>b
 |_::_,[]=>[]
def vM (m:Nat) (ρ:List (Nat×Nat)) (objs:List (Nat×Ob)):List (Nat×Nat)→List (Nat×Ob)→Option (List (Nat×Ob))
 | [],acc=>some acc
 |(o,n)::l,acc=>match getO objs o with
  |some x=>match getO acc n with
   |some _=>none
   |none=>vM m ρ objs l (putO acc n (qY m ρ objs n x))
  |none=>none
def Hz (ρ:List (Nat×Nat)):Nat→Bool
 |0=>true
 |n+1=>(match mv n ρ with|some k=>decide (k=n)|none=>false)&&Hz ρ n
def HA (m:Nat) (ρ:List (Nat×Nat)) (st:St):Option St:=
 match E6 (ρ.map (·.1))&&Hz ρ m with
 |true=>match vM m ρ st.objs ρ []with
  |some objs=>some ⟨iD m ρ st.objs st.env,objs⟩
  |none=>none
 |false=>none
def assign (ρ:List (Nat×Nat)) (o n:Nat):List (Nat×Nat):=
 match mv o ρ with|some _=>ρ|none=>ρ++[(o,n)]
def T3 (objs:List (Nat×Ob)) (n:Nat) (a:AV) (ρ:List (Nat×Nat)):List (Nat×Nat):=
 match a with
 | .ref o v=>match kE objs o v with|true=>assign ρ o n|false=>ρ
 | .eptr o v _ _=>match kE objs o v with|true=>assign ρ o n|false=>ρ
 | .ptr o _=>assign ρ o n
 | .mp o=>assign ρ o n
 |_=>ρ
def P2 (objs:List (Nat×Ob)) (f:Nat→Nat):List AV→Nat→List (Nat×Nat)→List (Nat×Nat)
 | [],_,ρ=>ρ
 |a::l,i,ρ=>P2 objs f l (i+1) (T3 objs (f i) a ρ)
def P3 (objs:List (Nat×Ob)):Nat→List (Nat×Nat)→List (Nat×Nat)→List (Nat×Nat)
 |0,_,ρ=>ρ
 |_,[],ρ=>ρ
 |f+1,(o,n)::todo,ρ=>match getO objs o with
  |some (.var cs)=>
   let ρ':=P2 objs (fun j=>n+1+j) cs 0 ρ
   P3 objs f (todo++ρ'.drop ρ.length) ρ'
  |_=>P3 objs f todo ρ
def UW (m:Nat) (st:St):List (Nat×Nat):=
 let ρ0:=(T2 m).map fun i=>(i,i)
 let ρ:=P2 st.objs (fun i=>64* (i+1)) st.env 0 ρ0
 P3 st.objs 40 ρ ρ
def nx (f:Nat→Nat):List AV→Nat→List (Nat×Ob)→List AV×List (Nat×Ob)
 | [],_,objs=>([],objs)
 | .nil e::l,i,objs=>match getO objs (f i)with
   |none=>
    let(l',objs'):=nx f l (i+1) (putO objs (f i) (.arr e 0 false []))
    (.ref (f i) 0::l',objs')
   |some _=>let(l',objs'):=nx f l (i+1) objs;(.nil e::l',objs')
 |a::l,i,objs=>let(l',objs'):=nx f l (i+1) objs;(a::l',objs')
def Rh:List Nat→List (Nat×Ob)→List (Nat×Ob)
 | [],objs=>objs
 |n::l,objs=>match getO objs n with
  |some (.var cs)=>
   let(cs',objs'):=nx (fun j=>n+1+j) cs 0 objs
   Rh l (putO objs' n (.var cs'))
  |_=>Rh l objs
def pro (st:St):St:=
 let(env,objs):=nx (fun i=>64* (i+1)) st.env 0 st.objs
 ⟨env,Rh (objs.map (·.1)) objs⟩
def OL (m:Nat) (shape:List AV) (st:St):Option St:=
 let st':St:=⟨OK shape st.env,st.objs⟩
 match HA m (UW m st') st' with
 |some s=>some (pro s)
 |none=>none
def iF (m:Nat) (body:St→(Ex→St→Option R)→Option R) (shape:List AV):Nat→St→(Ex→St→Option R)→Option R
 |0,_,_=>none
 |n+1,st,k=>body st fun e st'=>match e with
  | .normal=>match OL m shape st' with
    |some s=>iF m body shape n s k
    |none=>none
  | .exit i=>k (.exit i) st'
  | .ret=>k .ret st'
def lid:Code→Nat
 | .region id _ _=>id
 | .seq a _=>lid a
 | .block _ b=>lid b
 | .loop b=>lid b
 |_=>0
def MD (o:Nat):List (Nat×List Nat)→Option (List Nat)
 | []=>none
 |(a,n)::l=>if a=o then some n else MD o l
def only(l:List Nat):Nat→List AV→List AV
 |_,[]=>[]
 |i,v::vs=>(match zV i l with|true=>v|false=>.undef)::only l (i+1) vs
def HB (b:Bool) (a:AV):AV:=match b,a with|true,.nil e=>.sh e []|_,a=>a
def vN (l:List Nat):Nat→List AV→List AV
 |_,[]=>[]
 |i,a::r=>HB (zV i l) a::vN l (i+1) r
def P4 (l:List Nat) (i:Nat) (env:List AV):List AV:=match l with| []=>env|l=>vN l i env
def P5 (O:Opt) (b:Code) (env:List AV):List AV:=
 match MD (lid b) O.live with
 |some l=>P4 O.shn 0 (only l 0 env)
 |none=>env
def Hr (O:Opt) (m:Nat) (b:Code) (k:Ex→St→Option R) (e:Ex) (st:St):Option R:=
 match MD (lid b) O.outs with
 |none=>k e st
 |some l=>match OL m (only l 0 st.env) ⟨only l 0 st.env,st.objs⟩with
  |some s=>k e s
  |none=>none
def evK (C:cy) (O:Opt) (m n:Nat):Code→St→(Ex→St→Option R)→Option R
 | .skip,st,k=>k .normal st
 | .region _ ops false,st,k=>OJ K C O ops.toList ops.toList st (k .normal)
 | .region _ ops true,st,k=>MC K C O ops.toList ops.toList st [] fun st ts=>if nw ops.toList ts then k .normal st else none
 | .seq a b,st,k=>evK C O m n a st fun e st'=>match e with
   | .normal=>evK C O m n b st' k
   | .exit i=>k (.exit i) st'
   | .ret=>k .ret st'
 | .cond c a b,st,k=>match c with
   | .tmp s=>match getS st.env s with
     | .bool v=>(match v with
       |true=>evK C O m n a ⟨putS st.env s (.bool true),st.objs⟩ k
       |false=>evK C O m n b ⟨putS st.env s (.bool false),st.objs⟩ k)
     |_=>none
   | .const (.bool v)=>(match v with|true=>evK C O m n a st k|false=>evK C O m n b st k)
   |_=>none
 | .block id b,st,k=>evK C O m n b st fun e st'=>match e with
   | .normal=>k .normal st'
   | .exit i=>if i=id then k .normal st' else k (.exit i) st'
   | .ret=>k .ret st'
 | .loop b,st,k=>match OL m (P5 O b st.env) ⟨P5 O b st.env,st.objs⟩with
   |some s=>iF m (fun st k=>evK C O m n b st k) s.env n s (Hr O m b k)
   |none=>none
 | .exit id,st,k=>k (.exit id) st
 | .ret,st,k=>k .ret st
 |_,_,_=>none
def P6:List ResultVar→(List AV→Cmd)→Cmd
 | [],k=>k []
 | .tmp t::l,k=>.getS t fun v=>P6 l fun vs=>k (v::vs)
 | .cell a t::l,k=>match K.lay t with
   |some (cs,ag)=>.getS a fun
    | .ptr o off=>.getO o fun
      | .var xs=>if off+cs.length≤xs.length then(match mkv ag (sub xs off cs.length)with
        |some v=>P6 l fun vs=>k (v::vs)
        |none=>.fail)else .fail
      |_=>.fail
    |_=>.fail
   |none=>.fail
def P7 (objs:List (Nat×Ob)):Nat→List Nat→List (Nat×Ob)→Option (List (Nat×Ob))
 |_,[],acc=>some acc
 |0,_::_,_=>none
 |f+1,o::todo,acc=>match inL o acc with
  |true=>P7 objs f todo acc
  |false=>match getO objs o with
   |some x=>P7 objs f (todo++x.ids) (acc++[(o,x)])
   |none=>none
mutual
def il:AV→List Ob→AV×List Ob
 | .nil e,os=>(.ref os.length 0,os++[.arr e 0 false []])
 | .agg vs,os=>let(vs',os'):=iG vs os;(.agg vs',os')
 | .tup vs,os=>let(vs',os'):=iG vs os;(.tup vs',os')
 |a,os=>(a,os)
def iG:List AV→List Ob→List AV×List Ob
 | [],os=>([],os)
 |a::l,os=>let(a',os'):=il a os;let(l',os''):=iG l os';(a'::l',os'')
end
def HC (O:Opt) (m:Nat) (st:St) (res:AV):Option (AV×List Ob):=
 match P7 st.objs 60 (T2 m++res.ids) []with
 |some objs=>
  let os:=objs.map (·.1)
  let ρ:=jl 0 os
  match E6 os&&Hz ρ m with
  |true=>match O.keepNil with
   |true=>some (mw m ρ st.objs res,my m ρ st.objs 0 objs)
   |false=>some (il (mw m ρ st.objs res) (my m ρ st.objs 0 objs))
  |false=>none
 |none=>none
def one:List AV→AV
 | [v]=>v
 |vs=>.tup vs
def Rr (O:Opt) (m:Nat) (fn:Func) (st:St):Option (AV×List Ob):=
 (P6 K fn.results.toList fun vs=>.putS 0 (one vs) .done).run st fun st'=>HC O m st' (getS st'.env 0)
def HD:Nat→List Ob→List (Nat×Ob)
 |_,[]=>[]
 |n,x::l=>(n,x)::HD (n+1) l
def start (fn:Func) (args:List AV) (objs:List Ob):St:=⟨args++List.replicate (fn.ntmps-args.length) .undef,HD 0 objs⟩
def OM (C:cy) (O:Opt) (n:Nat) (fn:Func) (args:List AV) (objs:List Ob):Option (AV×List Ob):=
 match fn.body with
 |some c=>evK K C O objs.length n c (start fn args objs) fun e st=>match e with
  | .exit _=>none
  |_=>Rr K O objs.length fn st
 |none=>none
end
end Go.Proofs.YtihabpimbfmhhaaGreatDoor.Ev
namespace Go.Proofs.YtihabpimbfmhhaaGreatDoor.Ev
open Go Go.RowKit
def rd (w:World) (M:Nat→Nat→Prop):(t:Ty)→Den t→List Value→Prop
 | .int k,n,cs=>cs=[.int k n]
 | .bool,b,cs=>cs=[.bool b]
 | .str,s,cs=>cs=[.string ⟨s.toArray⟩]
 | .slice e,l,cs=> ∃a n c,cs=[.slice a n c]∧n=l.length∧n≤c∧
  (l=[]∨ ∃b o,a=some ⟨b,o,none⟩∧ ∀i (h:i<l.length),∃ds:List Value,ds.length=e.size∧rd w M e l[i] ds∧
   ∀j,j<e.size→w.cell? ⟨b,o+i*e.size+j,none⟩=ds[j]? ∧ ¬M b (o+i*e.size+j))
 | .pair a b,x,cs=> ∃c d,cs=c++d∧rd w M a x.1 c∧rd w M b x.2 d
 | .unit,_,cs=>cs=[]
theorem q7 {w:World} {M:Nat→Nat→Prop}: ∀(t:Ty) {x:Den t} {cs:List Value},rd w M t x cs→cs.length=t.size
 | .int k,_,_,h=>by cases h;rfl
 | .bool,_,_,h=>by cases h;rfl
 | .str,_,_,h=>by cases h;rfl
 | .slice e,_,_,h=>by obtain⟨_,_,_,rfl,_⟩:=h;rfl
 | .pair a b,_,_,h=>by
   obtain⟨c,d,rfl,h1,h2⟩:=h
   simp [q7 a h1,q7 b h2,Ty.size,Ty.cts]
 | .unit,_,_,h=>by cases h;rfl
def Tr (w:World) (M:Nat→Nat→Prop) (w':World) (M':Nat→Nat→Prop):Prop:=
 ∀b o v,¬M b o→w.cell? ⟨b,o,none⟩=some v→ ¬M' b o∧w'.cell? ⟨b,o,none⟩=some v
theorem fW {w w':World} {M M':Nat→Nat→Prop} (ht:Tr w M w' M'): ∀(t:Ty) {x:Den t} {cs:List Value},rd w M t x cs→rd w' M' t x cs
 | .int _,_,_,h=>h
 | .bool,_,_,h=>h
 | .str,_,_,h=>h
 | .slice e,_,_,h=>by
   obtain⟨a,n,c,h1,h2,h3,h4⟩:=h
   refine⟨a,n,c,h1,h2,h3, ?_⟩
   rcases h4 with h4|⟨b,o,ha,hr⟩
   ·exact .inl h4
   ·refine .inr ⟨b,o,ha,fun i hi=> ?_⟩
    obtain⟨ds,hd,hx,hc⟩:=hr i hi
    refine⟨ds,hd,fW ht e hx,fun j hj=> ?_⟩
    obtain⟨h5,h6⟩:=hc j hj
    have:ds[j]? =some (ds[j]'(by omega)):=by simp [hd,hj]
    rw [this]at h5⊢
    exact⟨(ht _ _ _ h6 h5).2,(ht _ _ _ h6 h5).1⟩
 | .pair a b,_,_,h=>by
   obtain⟨c,d,h1,h2,h3⟩:=h
   exact⟨c,d,h1,fW ht a h2,fW ht b h3⟩
 | .unit,_,_,h=>h
theorem ny {w:World} {M:Nat→Nat→Prop}: ∀(t:Ty) {x:Den t} {cs:List Value},rd w M t x cs→ ∀c∈cs,c.oneCell'=true
 | .int k,_,_,h,c,hc=>by cases h;simp at hc;subst hc;rfl
 | .bool,_,_,h,c,hc=>by cases h;simp at hc;subst hc;rfl
 | .str,_,_,h,c,hc=>by cases h;simp at hc;subst hc;rfl
 | .slice e,_,_,h,c,hc=>by obtain⟨_,_,_,rfl,_⟩:=h;simp at hc;subst hc;rfl
 | .pair a b,_,_,h,c,hc=>by
   obtain⟨c1,d,rfl,h1,h2⟩:=h
   rcases List.mem_append.mp hc with h|h
   ·exact ny a h1 c h
   ·exact ny b h2 c h
 | .unit,_,_,h,c,hc=>by cases h;simp at hc
structure Loc where
 base:Option (Nat×Nat)
 cap:Nat
 /-- Ranges of cells that an own row's elements own: block, first cell, how many. -/
 dp:List (Nat×Nat×Nat):=[]
def cov (rs:List (Nat×Nat×Nat)) (b o:Nat):Prop:= ∃r∈rs,r.1=b∧r.2.1≤o∧o<r.2.1+r.2.2
def kH:Ob→Bool
 | .arr _ _ z _=> !z
 |_=>false
def Loc.addr (l:Loc):Option Addr:=l.base.map fun p=>⟨p.1,p.2,none⟩
def ext (p:Loc×Ob):Nat:=
 match p.2 with
 | .var cs=>cs.length
 | .arr e _ z _=>if z then 0 else p.1.cap*e.size
 | .map .. =>1
def inR (p:Loc×Ob) (b o:Nat):Prop:=(∃o0,p.1.base=some (b,o0)∧o0≤o∧o<o0+ext p)∨(kH p.2=true∧cov p.1.dp b o)
theorem cg {p:Loc×Ob} {b o:Nat} (hd:p.1.dp=[]) (h:inR p b o): ∃o0,p.1.base=some (b,o0)∧o0≤o∧o<o0+ext p:=by
 rcases h with h|⟨_,r,hr,_⟩
 ·exact h
 ·rw [hd]at hr;cases hr
theorem q8 {p:Loc×Ob} {b o:Nat} (hd:kH p.2=false) (h:inR p b o): ∃o0,p.1.base=some (b,o0)∧o0≤o∧o<o0+ext p:=by
 rcases h with h|⟨hw,_⟩
 ·exact h
 ·rw [hd]at hw;cases hw
structure Lk where
 obj:Nat→Option (Loc×Ob)
 F:Nat→Nat→Prop
instance:CoeFun Lk (fun _=>Nat→Option (Loc×Ob)):=⟨Lk.obj⟩
def eq (L:Lk) (b o:Nat):Prop:= ∃i p,L i=some p∧inR p b o
def Mut (L:Lk) (b o:Nat):Prop:=L.F b o∨eq L b o
structure Bd where
 m:Nat→Nat→Prop
 f:Nat→Nat→Prop
mutual
def rel (L:Lk) (w:World) (M:Nat→Nat→Prop):AV→Value→Prop
 | .undef,_=>True
 | .int k n,v=>v= .int k n
 | .bool b,v=>v= .bool b
 | .str s,v=>v= .string ⟨s.toArray⟩
 | .sh e l,v=>rd w M (.slice e) l [v]
 | .nil _,v=>v= .slice none 0 0
 | .sel e x off,v=> ∃b o ds,v= .pointer (some ⟨b,o+off,none⟩)∧ds.length=e.size∧rd w M e x ds∧ ∀j,j<e.size→w.cell? ⟨b,o+j,none⟩=ds[j]? ∧ ¬M b (o+j)
 | .ref i ver,v=> ∃l e cur z xs p n c,L i=some (l,.arr e cur z xs)∧ver≤cur∧v= .slice p n c∧(ver=cur→p=l.addr∧n=xs.length∧c=l.cap)
 | .ptr i off,v=> ∃b o cap cs,L i=some (⟨some (b,o),cap,[]⟩,.var cs)∧v= .pointer (some ⟨b,o+off,none⟩)
 | .eptr i ver k off,v=> ∃l e cur z xs p,L i=some (l,.arr e cur z xs)∧ver≤cur∧v= .pointer (some p)∧(ver=cur→ ∃b o,l.base=some (b,o)∧0≤k∧k< (xs.length:Int)∧p=⟨b,o+k.toNat*e.size+off,none⟩)
 | .nilp,v=>v= .pointer none
 | .fn f cap,v=> ∃cs:Array Value,v= .func (.func f) #[] cs∧aK L w M cap cs.toList
 | .nilfn,v=>v= .nilFunc
 | .noerr,v=>v= .nilIface
 | .err,v=> ∃t x,v= .iface t x
 | .bz _,_=>True
 | .mp i,v=> ∃b cap kt vt ag xs,L i=some (⟨some (b,0),cap,[]⟩,.map kt vt ag xs)∧v= .map (some b)
 | .wref i e n c k,v=> ∃b o cap cs,L i=some (⟨some (b,o+k.toNat*e.size),cap,[]⟩,.var cs)∧v= .slice (some ⟨b,o,none⟩) n c
 | .agg vs,v=> ∃cs:Array Value,v= .agg cs∧aK L w M vs cs.toList∧ ∀c∈cs.toList,c.oneCell'=true
 | .tup vs,v=> ∃cs:Array Value,v= .tuple cs∧aK L w M vs cs.toList
def aK (L:Lk) (w:World) (M:Nat→Nat→Prop):List AV→List Value→Prop
 | [],cs=>cs=[]
 |a::as,cs=> ∃c cs',cs=c::cs'∧rel L w M a c∧aK L w M as cs'
end
def Turn (L L':Lk):Prop:= ∀i l x,L i=some (l,x)→ ∃l' x',L' i=some (l',x')∧
 match x with
 | .var _=>l'=l∧ ∃cs',x'= .var cs'
 | .arr e cur _ xs=> ∃cur' z' xs',x'= .arr e cur' z' xs'∧cur≤cur'∧(cur=cur'→(l'.base=l.base∧l'.cap=l.cap)∧xs'.length=xs.length)
 | .map kt vt ag _=>l'=l∧ ∃xs',x'= .map kt vt ag xs'
theorem Turn.refl (L:Lk):Turn L L:=by
 intro i l x h
 refine⟨l,x,h, ?_⟩
 cases x with
 |var cs=>exact⟨rfl,cs,rfl⟩
 |arr e cur z xs=>exact⟨cur,z,xs,rfl,Nat.le_refl _,fun _=>⟨⟨rfl,rfl⟩,rfl⟩⟩
 |map kt vt ag xs=>exact⟨rfl,xs,rfl⟩
theorem iH {w w':World} {M M':Nat→Nat→Prop} (ht:Tr w M w' M') {e:Ty} {l:List (Den e)} {cs:List Value} (h:rd w M (.slice e) l cs):rd w' M' (.slice e) l cs:=fW ht (.slice e) h
mutual
theorem im {L L':Lk} {w w':World} {M M':Nat→Nat→Prop} (hT:Turn L L') (ht:Tr w M w' M'): ∀(a:AV) {v:Value},rel L w M a v→rel L' w' M' a v
 | .undef,_,_=>by simp [rel]
 | .int _ _,_,h=>by simpa [rel]using h
 | .bool _,_,h=>by simpa [rel]using h
 | .str _,_,h=>by simpa [rel]using h
 | .sh e l,_,h=>by simp only [rel]at h⊢;exact iH ht h
 | .nil _,_,h=>by simpa [rel]using h
 | .sel e x off,_,h=>by
   simp only [rel]at h⊢
   obtain⟨b,o,ds,h1,h2,h3,h4⟩:=h
   refine⟨b,o,ds,h1,h2,fW ht e h3,fun j hj=> ?_⟩
   obtain⟨h5,h6⟩:=h4 j hj
   have:ds[j]? =some (ds[j]'(by omega)):=by simp [h2,hj]
   rw [this]at h5⊢
   exact⟨(ht _ _ _ h6 h5).2,(ht _ _ _ h6 h5).1⟩
 | .ref i ver,_,h=>by
   simp only [rel]at h⊢
   obtain⟨l,e,cur,z,xs,p,n,c,h1,h2,hp,h3⟩:=h
   obtain⟨l',x',h4,cur',z',xs',rfl,h5,h6⟩:=hT _ _ _ h1
   refine⟨l',e,cur',z',xs',p,n,c,h4,by omega,hp,fun hv=> ?_⟩
   have hc:cur=cur':=by omega
   obtain⟨⟨hb1,hb2⟩,hl⟩:=h6 hc
   simp only [Loc.addr,hb1,hb2,hl];exact h3 (by omega)
 | .ptr i off,_,h=>by
   simp only [rel]at h⊢
   obtain⟨b,o,cap,cs,h1,h2⟩:=h
   obtain⟨l',x',h4,rfl,cs',rfl⟩:=hT _ _ _ h1
   exact⟨b,o,cap,cs',h4,h2⟩
 | .eptr i ver k off,_,h=>by
   simp only [rel]at h⊢
   obtain⟨l,e,cur,z,xs,p,h1,h2,hp,h3⟩:=h
   obtain⟨l',x',h4,cur',z',xs',rfl,h5,h6⟩:=hT _ _ _ h1
   refine⟨l',e,cur',z',xs',p,h4,by omega,hp,fun hv=> ?_⟩
   have hc:cur=cur':=by omega
   obtain⟨⟨hb1,hb2⟩,hl⟩:=h6 hc
   simp only [Loc.addr,hb1,hb2,hl];exact h3 (by omega)
 | .nilp,_,h=>by simpa [rel]using h
 | .fn f cap,_,h=>by
   simp only [rel]at h⊢
   obtain⟨cs,h1,h2⟩:=h
   exact⟨cs,h1,ci hT ht cap h2⟩
 | .nilfn,_,h=>by simpa [rel]using h
 | .noerr,_,h=>by simpa [rel]using h
 | .err,_,h=>by simpa [rel]using h
 | .bz _,_,_=>by simp [rel]
 | .mp i,_,h=>by
   simp only [rel]at h⊢
   obtain⟨b,cap,kt,vt,ag,xs,h1,h2⟩:=h
   obtain⟨l',x',h4,rfl,xs',rfl⟩:=hT _ _ _ h1
   exact⟨b,cap,kt,vt,ag,xs',h4,h2⟩
 | .wref i e n c k,_,h=>by
   simp only [rel]at h⊢
   obtain⟨b,o,cap,cs,h1,h2⟩:=h
   obtain⟨l',x',h4,rfl,cs',rfl⟩:=hT _ _ _ h1
   exact⟨b,o,cap,cs',h4,h2⟩
 | .agg vs,_,h=>by
   simp only [rel]at h⊢
   obtain⟨cs,h1,h2,h3⟩:=h
   exact⟨cs,h1,ci hT ht vs h2,h3⟩
 | .tup vs,_,h=>by
   simp only [rel]at h⊢
   obtain⟨cs,h1,h2⟩:=h
   exact⟨cs,h1,ci hT ht vs h2⟩
theorem ci {L L':Lk} {w w':World} {M M':Nat→Nat→Prop} (hT:Turn L L') (ht:Tr w M w' M'): ∀(as:List AV) {cs:List Value},aK L w M as cs→aK L' w' M' as cs
 | [],_,h=>by simpa [aK]using h
 |a::as,_,h=>by
  simp only [aK]at h⊢
  obtain⟨c,cs',h1,h2,h3⟩:=h
  exact⟨c,cs',h1,im hT ht a h2,ci hT ht as h3⟩
end
theorem bp {L:Lk} {w:World} {M:Nat→Nat→Prop}: ∀{as:List AV} {cs:List Value},aK L w M as cs→cs.length=as.length
 | [],_,h=>by simp only [aK]at h;simp [h]
 |a::as,_,h=>by
  simp only [aK]at h
  obtain⟨c,cs',rfl,_,h3⟩:=h
  simp [bp h3]
theorem fg {L:Lk} {w:World} {M:Nat→Nat→Prop}: ∀{as bs:List AV} {cs ds:List Value},aK L w M as cs→aK L w M bs ds→aK L w M (as++bs) (cs++ds)
 | [],_,_,_,h,h'=>by simp only [aK]at h;subst h;simpa using h'
 |a::as,_,_,_,h,h'=>by
  simp only [aK]at h
  obtain⟨c,cs',rfl,h1,h2⟩:=h
  simp only [List.cons_append,aK]
  exact⟨c,_,rfl,h1,fg h2 h'⟩
theorem tK {L:Lk} {w:World} {M:Nat→Nat→Prop}: ∀{as:List AV} {cs:List Value},aK L w M as cs→ ∀(n:Nat) (a:AV),as[n]? =some a→ ∃c,cs[n]? =some c∧rel L w M a c
 | [],_,_,n,a,ha=>by simp at ha
 |a'::as,_,h,n,a,ha=>by
  simp only [aK]at h
  obtain⟨c,cs',rfl,h1,h2⟩:=h
  cases n with
  |zero=>simp at ha;subst ha;exact⟨c,rfl,h1⟩
  |succ n=>simpa using tK h2 n a (by simpa using ha)
theorem kI: ∀(l:List AV) (n:Nat),getS l n=l.getD n .undef
 | [],n=>by simp [getS]
 |a::l,0=>by simp [getS]
 |a::l,n+1=>by simp [getS,kI l n]
theorem tL: ∀(l:List AV) (n:Nat) (v:AV),putS l n v=l.set n v
 | [],n,v=>by simp [putS]
 |a::l,0,v=>by simp [putS]
 |a::l,n+1,v=>by simp [putS,tL l n v]
theorem dn {L:Lk} {w:World} {M:Nat→Nat→Prop} {as:List AV} {cs:List Value} (h:aK L w M as cs) (n:Nat):rel L w M (getS as n) (cs.getD n undef):=by
 rw [kI]
 cases ha:as[n]? with
 |none=>simp [List.getD,ha,rel]
 |some a=>
  obtain⟨c,hc,hr⟩:=tK h n a ha
  simpa [List.getD,ha,hc]using hr
theorem js {L:Lk} {w:World} {M:Nat→Nat→Prop}: ∀{as:List AV} {cs:List Value},aK L w M as cs→ ∀(n:Nat) {a:AV} {c:Value},rel L w M a c→aK L w M (putS as n a) (cs.set n c)
 | [],_,h,n,a,c,_=>by simp only [aK]at h;subst h;simp [putS,aK]
 |b::as,_,h,n,a,c,hr=>by
  simp only [aK]at h
  obtain⟨d,cs',rfl,h1,h2⟩:=h
  cases n with
  |zero=>simp only [putS,List.set_cons_zero,aK];exact⟨c,cs',rfl,hr,h2⟩
  |succ n=>simp only [putS,List.set_cons_succ,aK];exact⟨d,_,rfl,h1,js h2 n hr⟩
structure Fr (w:World) (N:Nat→Nat→Prop) (w':World):Prop where
 os:w'.os=w.os
 tape:w'.tape=w.tape
 output:w'.output=w.output
 size:w.heap.size≤w'.heap.size
 blk: ∀b,b<w.heap.size→(∀o,¬N b o)→w'.heap[b]? =w.heap[b]?
 cel: ∀b o,b<w.heap.size→ ¬N b o→w'.cell? ⟨b,o,none⟩=w.cell? ⟨b,o,none⟩
 frz: ∀b o,b<w.heap.size→ ¬N b o→w'.frozen? ⟨b,o,none⟩=w.frozen? ⟨b,o,none⟩
 shp: ∀b,b<w.heap.size→w'.shape? b=w.shape? b
theorem Fr.refl (w:World) (N:Nat→Nat→Prop):Fr w N w:=⟨rfl,rfl,rfl,Nat.le_refl _,fun _ _ _=>rfl,fun _ _ _ _=>rfl,fun _ _ _ _=>rfl,fun _ _=>rfl⟩
theorem Fr.trans {w w' w'':World} {N N':Nat→Nat→Prop} (h:Fr w N w') (h':Fr w' N' w'') (hN: ∀b o,b<w.heap.size→N' b o→N b o):Fr w N w'' where
 os:=h'.os.trans h.os
 tape:=h'.tape.trans h.tape
 output:=h'.output.trans h.output
 size:=Nat.le_trans h.size h'.size
 blk b hb hn:=(h'.blk b (Nat.lt_of_lt_of_le hb h.size) fun o ho=>hn o (hN b o hb ho)).trans (h.blk b hb hn)
 cel b o hb hn:=(h'.cel b o (Nat.lt_of_lt_of_le hb h.size) fun ho=>hn (hN b o hb ho)).trans (h.cel b o hb hn)
 frz b o hb hn:=(h'.frz b o (Nat.lt_of_lt_of_le hb h.size) fun ho=>hn (hN b o hb ho)).trans (h.frz b o hb hn)
 shp b hb:=(h'.shp b (Nat.lt_of_lt_of_le hb h.size)).trans (h.shp b hb)
theorem Fr.mono {w w':World} {N N':Nat→Nat→Prop} (h:Fr w N w') (hN: ∀b o,b<w.heap.size→N b o→N' b o):Fr w N' w' where
 os:=h.os
 tape:=h.tape
 output:=h.output
 size:=h.size
 blk b hb hn:=h.blk b hb fun o ho=>hn o (hN b o hb ho)
 cel b o hb hn:=h.cel b o hb fun ho=>hn (hN b o hb ho)
 frz b o hb hn:=h.frz b o hb fun ho=>hn (hN b o hb ho)
 shp:=h.shp
theorem Fr.below {w w':World} (h:Fr w (fun _ _=>False) w'):Below w.heap.size w w':=
 ⟨h.os,h.tape,h.output,h.size,fun k hk=>h.blk k hk fun _=>id⟩
theorem Fr.drew {w w':World} {N:Nat→Nat→Prop} (h:Fr w N w'):Fr w N w'.drew:=⟨h.os,h.tape,h.output,h.size,h.blk,h.cel,h.frz,h.shp⟩
theorem Fr.alloc (w:World) (N:Nat→Nat→Prop) (x:Obj):Fr w N (w.alloc x)where
 os:=rfl
 tape:=rfl
 output:=rfl
 size:=by simp
 blk b hb _:=Below.heap_alloc _ _ _ hb
 cel b o hb _:=World.cell?_alloc_lt w x _ (by exact hb)
 frz b o hb _:=World.frozen?_alloc_old w x _ (by simp only;omega)
 shp b hb:=by simp only [World.shape?,Below.heap_alloc _ _ _ hb]
theorem Fr.setCell (w:World) {N:Nat→Nat→Prop} (b o:Nat) (v:Value) (hN:N b o):Fr w N (w.setCell ⟨b,o,none⟩ v)where
 os:=rfl
 tape:=rfl
 output:=rfl
 size:=by simp
 blk b' hb hn:=Below.heap_setCell _ _ _ _ (by intro e;subst e;exact hn _ hN)
 cel b' o' hb hn:=World.cell?_setCell_other w _ _ _ (by intro e;simp at e;obtain⟨rfl,rfl⟩:=e;exact hn hN)
 frz b' o' hb _:=by simp
 shp b' hb:=by
  simp only [World.shape?,World.setCell,Array.getElem?_modify]
  by_cases e:b=b'
  ·subst e
   rw [if_pos rfl]
   cases hx:w.heap[b]? with
   |none=>simp
   |some x=>cases x<;>simp
  ·rw [if_neg e]
end Go.Proofs.YtihabpimbfmhhaaGreatDoor.Ev
