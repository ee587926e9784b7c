import GoSem.Core.View
import GoSem.Core.Region
import GoSem.Op.Equal
namespace Go.AM
noncomputable section
variable {α:Type}
inductive AV where
 | undef
 | bool (b:Bool)
 | int (k:IntKind) (n:Int)
 | str (s:List Nat)
 | nilptr
 | ptr (id off:Nat)
 | fptr (cells:List AV) (off:Nat)
 | nilsl
 | lst (n:Nat) (cells:List AV) (exact:Bool)
 | own (id off n sz:Nat) (cap:Option Nat) (lo:Nat)
 | nilmap
 | map (id:Nat)
 | func (fn:Fn) (first captured:List AV)
 | nilfn
 | niface
 | iface (t:TypeId) (v:AV)
 | agg (cells:List AV)
 | tuple (vs:List AV)
 | yld (id:Nat)
 | top
 deriving Inhabited
inductive LS where
 | ready
 | busy
 | ret
 | exit (id:Nat)
 | fin
 deriving Inhabited
inductive AO where
 | row (cells:List AV)
 | fro (cells:List AV)
 | map (es:List (AV × AV))
 | loop (s:LS)
 | fmap (es:List (AV × AV))
 | iter (m:Nat) (ks:List Nat)
 deriving Inhabited
inductive Tr (α:Type) where
 | nil
 | node (o:Option α) (l r:Tr α)
 deriving Inhabited
def Tr.val:Tr α->Option α
 | .nil=>none
 | .node o _ _=>o
def Tr.left:Tr α->Tr α
 | .nil=>.nil
 | .node _ l _=>l
def Tr.right:Tr α->Tr α
 | .nil=>.nil
 | .node _ _ r=>r
def Tr.getN:Nat->Tr α->Nat->Option α
 | 0,t,_=>t.val
 | f+1,t,n=>bif n.beq 0 then t.val else bif (n.mod 2).beq 1 then Tr.getN f t.left (n.div 2) else Tr.getN f t.right ((n.div 2).pred)
def Tr.setN:Nat->Tr α->Nat->Option α->Tr α
 | 0,t,_,o=>.node o t.left t.right
 | f+1,t,n,o=>bif n.beq 0 then .node o t.left t.right else
  bif (n.mod 2).beq 1 then .node t.val (Tr.setN f t.left (n.div 2) o) t.right else .node t.val t.left (Tr.setN f t.right ((n.div 2).pred) o)
def Tr.get(t:Tr α)(n:Nat):Option α:=Tr.getN n t n
def Tr.set(t:Tr α)(n:Nat)(o:Option α):Tr α:=Tr.setN n t n o
structure St where
 next:Nat
 tr:Tr AO
 bt:Tr Nat
 deriving Inhabited
def St.get(st:St)(id:Nat):Option AO:=st.tr.get id
def St.put(st:St)(id:Nat)(o:AO):St:={ st with tr:=st.tr.set id (some o) }
def St.del(st:St)(id:Nat):St:={ st with tr:=st.tr.set id none }
def St.new(st:St)(o:AO):St:={ next:=st.next+1,tr:=st.tr.set st.next (some o),bt:=st.bt }
def St.tag(st:St)(id e:Nat):St:={ st with bt:=st.bt.set id (some e) }
def Uf:TypeId:=124
def Pe:TypeId:=50
def AV.cells:AV->List AV
 | .agg cs=>cs
 | v=>[v]
def AV.one:AV->Bool
 | .undef | .agg _ | .tuple _ | .top=>false
 | _=>true
def in64:Int->Bool
 | .ofNat m=>Nat.ble m 9223372036854775807
 | .negSucc m=>Nat.ble m 9223372036854775807
def wr(k:IntKind)(n:Int):Int:=
 match k with
 | .i64=>bif in64 n then n else IntKind.wrap .i64 n
 | k=>k.wrap n
def boolBin(op:BinOp)(a b:Bool):Option AV:=
 match op with
 | .eql=>some (.bool (a==b))
 | .neq=>some (.bool (!(a==b)))
 | _=>none
def bitsOf(op:BinOp)(k:IntKind)(x y:Int):Option AV:=
 let a:=BitVec.ofInt k.bits x
 let b:=BitVec.ofInt k.bits y
 match op with
 | .and=>some (.int k (k.wrap (a &&& b).toNat))
 | .or=>some (.int k (k.wrap (a ||| b).toNat))
 | .xor=>some (.int k (k.wrap (a ^^^ b).toNat))
 | .andNot=>some (.int k (k.wrap (a &&& ~~~b).toNat))
 | _=>none
def T9(op:BinOp)(k:IntKind)(a b:Int):Option AV:=
 match op with
 | .add=>some (.int k (wr k (a+b)))
 | .sub=>some (.int k (wr k (a - b)))
 | .mul=>some (.int k (wr k (a*b)))
 | .quo=>if b=0 then none else some (.int k (wr k (a.tdiv b)))
 | .rem=>if b=0 then none else some (.int k (a.tmod b))
 | .eql=>some (.bool (a==b))
 | .neq=>some (.bool (a != b))
 | .lss=>some (.bool (a < b))
 | .leq=>some (.bool (a<=b))
 | .gtr=>some (.bool (a > b))
 | .geq=>some (.bool (a>=b))
 | .and | .or | .xor | .andNot=>bitsOf op k a b
 | .shl | .shr=>none
def shiftBin(op:BinOp)(k:IntKind)(a b:Int):Option AV:=
 if b < 0 then none else
 match op with
 | .shl=>some (.int k (k.wrap (a*2 ^ (min b.toNat k.bits))))
 | .shr=>some (.int k (a.fdiv (2 ^ (min b.toNat k.bits))))
 | _=>none
def KK:BinOp->Bool
 | .shl | .shr=>true
 | _=>false
def Jk:List Nat->List Nat->Bool
 | _,[]=>false
 | [],_::_=>true
 | a::x,b::y=>a.blt b||(a.beq b&&Jk x y)
def WQ:List Nat->List Nat->Bool
 | [],[]=>true
 | a::x,b::y=>a.beq b&&WQ x y
 | _,_=>false
def strBin(op:BinOp)(x y:List Nat):Option AV:=
 match op with
 | .add=>if x.length+y.length<=9223372036854775807 then some (.str (x++y)) else none
 | .eql=>some (.bool (WQ x y))
 | .neq=>some (.bool (!WQ x y))
 | .lss=>some (.bool (Jk x y))
 | .leq=>some (.bool (Jk x y||WQ x y))
 | .gtr=>some (.bool (!(Jk x y||WQ x y)))
 | .geq=>some (.bool (!Jk x y))
 | _=>none
def isNil(c:Nat)(x:AV):Option Bool:=
 match c,x with
 | 0,.nilptr=>some true
 | 0,.ptr _ _=>some false
 | 0,.fptr _ _=>some false
 | 1,.nilsl=>some true
 | 1,.lst _ _ _=>some false
 | 1,.own _ _ _ _ _ _=>some false
 | 2,.nilmap=>some true
 | 2,.map _=>some false
 | 3,.nilfn=>some true
 | 3,.func _ _ _=>some false
 | 4,.niface=>some true
 | 4,.iface _ _=>some false
 | _,_=>none
def Rg(c:Nat)(op:BinOp)(x y:AV):Option AV:=
 (isNil c x).bind fun a=>(isNil c y).bind fun b=>bif a||b then boolBin op a b else none
def binA(op:BinOp)(x y:AV):Option AV:=
 match x,y with
 | .int k a,.int k' b=>bif KK op then shiftBin op k a b else if k=k' then T9 op k a b else none
 | .str a,.str b=>strBin op a b
 | .bool a,.bool b=>boolBin op a b
 | _,_=>none
def unA(op:UnOp)(x:AV):Option AV:=
 match op,x with
 | .neg,.int k n=>some (.int k (wr k (0 - n)))
 | .not,.bool b=>some (.bool (!b))
 | _,_=>none
def Ja(agg:Bool)(n:Nat)(l:List AV):Option AV:=
 bif agg then (bif l.length.beq n then some (.agg l) else none) else match l with
  | [c]=>some c
  | _=>none
def Wy(st:St):AV->Option (List AV)
 | .fptr cs off=>some (cs.drop off)
 | .ptr id off=>match st.get id with
  | some (.row cs)=>some (cs.drop off)
  | some (.fro cs)=>some (cs.drop off)
  | _=>none
 | _=>none
def Vf(agg:Bool)(n:Nat)(st:St)(x:AV):Option AV:=(Wy st x).bind fun cs=>Ja agg n (cs.take n)
def setCells(cs:List AV)(off:Nat)(xs:List AV):List AV:=cs.take off++(xs++cs.drop (off+xs.length))
def Vt(n:Nat)(st:St)(a x:AV):Option St:=
 match a with
 | .ptr id off=>match st.get id with
  | some (.row cs)=>
   let xs:=x.cells
   bif xs.length.beq n&&(off+n).ble cs.length&&xs.all AV.one then some (st.put id (.row (setCells cs off xs))) else none
  | _=>none
 | _=>none
def Uh:TypeDesc->Bool
 | .struct _ | .array _ _=>true
 | _=>false
def Yy:TypeDesc->Option Nat
 | .pointer _=>some 0
 | .slice _=>some 1
 | .map _ _=>some 2
 | .func _ _ _=>some 3
 | .interface _=>some 4
 | _=>none
def WG(off:Nat):AV->Option AV
 | .fptr cs o=>some (.fptr cs (o+off))
 | .ptr id o=>some (.ptr id (o+off))
 | _=>none
def VC(sz:Nat)(x i:AV):Option AV:=
 match i with
 | .int _ (.ofNat i)=>match x with
  | .lst n cs _=>bif (i+1).ble n then (match cs with | []=>none | _=>some (.fptr cs (i*sz))) else none
  | .own id off n s _ _=>bif (i+1).ble n&&s.beq sz then some (.ptr id (off+i*sz)) else none
  | _=>none
 | _=>none
def UC(n sz:Nat)(x i:AV):Option AV:=
 match i with
 | .int _ (.ofNat i)=>bif (i+1).ble n then WG (i*sz) x else none
 | _=>none
def partA(agg:Bool)(off n:Nat)(cs:List AV):Option AV:=
 bif agg then (bif (off+n).ble cs.length then some (.agg ((cs.drop off).take n)) else none) else cs[off]?
def TN(agg:Bool)(off n:Nat):AV->Option AV
 | .agg cs=>partA agg off n cs
 | _=>none
def aindexA(agg:Bool)(len n:Nat)(x i:AV):Option AV:=
 match i with
 | .int _ (.ofNat i)=>bif (i+1).ble len then TN agg (i*n) n x else none
 | _=>none
def sindexA(x i:AV):Option AV:=
 match i with
 | .int _ (.ofNat i)=>match x with
  | .str l=>match l[i]? with
   | some b=>some (.int .u8 (.ofNat b))
   | none=>none
  | _=>none
 | _=>none
def convA(k:IntKind):AV->Option AV
 | .int _ n=>some (.int k (wr k n))
 | _=>none
def WJ(i:Nat):AV->Option AV
 | .tuple vs=>vs[i]?
 | _=>none
def Wm(st:St):AV->Option AV
 | .str l=>some (.int .i64 (.ofNat l.length))
 | .nilsl=>some (.int .i64 (.ofNat 0))
 | .lst n _ _=>some (.int .i64 (.ofNat n))
 | .own _ _ n _ _ _=>some (.int .i64 (.ofNat n))
 | .nilmap=>some (.int .i64 (.ofNat 0))
 | .map id=>match st.get id with
  | some (.map es)=>some (.int .i64 (.ofNat es.length))
  | _=>none
 | _=>none
def capA:AV->Option AV
 | .nilsl=>some (.int .i64 (.ofNat 0))
 | .lst n _ true=>some (.int .i64 (.ofNat n))
 | .own _ _ _ _ (some c) _=>some (.int .i64 (.ofNat c))
 | _=>none
def maxA:AV->AV->Option AV
 | .int k x,.int _ y=>some (.int k (if y > x then y else x))
 | _,_=>none
def minA:AV->AV->Option AV
 | .int k x,.int _ y=>some (.int k (if y < x then y else x))
 | _,_=>none
def foldA(f:AV->AV->Option AV):AV->List AV->Option AV
 | x,[]=>some x
 | x,y::l=>(f x y).bind fun z=>foldA f z l
def VN:List AV->List (Nat × Nat × AV)->Option (List AV)
 | cs,[]=>some cs
 | cs,(off,n,x)::l=>bif x.cells.length.beq n&&(off+n).ble cs.length then VN (setCells cs off x.cells) l else none
def Wd(sz:Nat)(st:St):AV->Option (Nat × List AV)
 | .nilsl=>some (0,[])
 | .lst n cs _=>bif (n*sz).ble cs.length then some (n,cs.take (n*sz)) else none
 | .own id off n s _ _=>match st.get id with
  | some (.row cs)=>bif s.beq sz&&(off+n*sz).ble cs.length then some (n,(cs.drop off).take (n*sz)) else none
  | some (.fro cs)=>bif s.beq sz&&(off+n*sz).ble cs.length then some (n,(cs.drop off).take (n*sz)) else none
  | _=>none
 | .str l=>bif sz.beq 1 then some (l.length,l.map fun b=>.int .u8 (.ofNat b)) else none
 | _=>none
def KY(k lo:Nat)(cap:Option Nat):Option Bool:=
 match cap with
 | some c=>some (k.ble c)
 | none=>bif k.ble lo then some true else none
def VX(bytes sz:Nat)(st:St)(x:AV)(n:Nat)(ys:List AV):Option (AV × St):=
 bif n.beq 0 then (match x with
  | .nilsl=>some (x,st)
  | .lst _ _ _=>some (x,st)
  | .own _ _ _ _ _ _=>some (x,st)
  | _=>none)
 else match x with
  | .nilsl=>bif (n*bytes).ble 140737488355328&&n.ble 140737488355328 then some (.own st.next 0 n sz none n,st.new (.row ys)) else none
  | .lst m cs true=>bif ((m+n)*bytes).ble 140737488355328&&(m+n).ble 140737488355328&&(m*sz).ble cs.length then
    some (.own st.next 0 (m+n) sz none (m+n),st.new (.row (cs.take (m*sz)++ys))) else none
  | .own id off m s cap lo=>match st.get id with
   | some (.row cs)=>bif s.beq sz&&((m+n)*bytes).ble 140737488355328&&(m+n).ble 140737488355328&&(off+m*sz).ble cs.length&&ys.all AV.one then
     (match KY (m+n) lo cap with
     | some true=>bif (off+(m+n)*sz).ble cs.length then some (.own id off (m+n) sz cap lo,st.put id (.row (setCells cs (off+m*sz) ys))) else none
     | some false=>some (.own st.next 0 (m+n) sz none (m+n),st.new (.row ((cs.drop off).take (m*sz)++ys)))
     | none=>bif off.beq 0&&(m*sz).beq cs.length then some (.own st.next 0 (m+n) sz none (m+n),(st.del id).new (.row (cs++ys))) else none)
    else none
   | _=>none
  | _=>none
def bndA(x:AV):Option Nat:=
 match x with
 | .int _ (.ofNat n)=>some n
 | _=>none
def JC:Option AV->Option (Option Nat)
 | none=>some none
 | some x=>(bndA x).map some
def hiOk(h n:Nat)(cap:Option Nat)(lw:Nat):Bool:=h.ble n||(match cap with
 | none=>h.ble lw
 | some k=>h.ble k)
def TF(sz:Nat)(x:AV)(lo hi mx:Option Nat):Option AV:=
 match x with
 | .nilsl=>bif (lo.getD 0).beq 0&&(hi.getD 0).beq 0&&(mx.getD 0).beq 0&&(mx.isNone||hi.isSome) then some .nilsl else none
 | .lst n cs ex=>
  let l:=lo.getD 0
  let h:=hi.getD n
  match mx with
  | none=>bif l.ble h&&h.ble n&&(h*sz).ble cs.length then some (.lst (h - l) ((cs.drop (l*sz)).take ((h - l)*sz)) (ex&&h.beq n)) else none
  | some m=>bif l.ble h&&h.ble m&&m.ble n&&(h*sz).ble cs.length&&hi.isSome then some (.lst (h - l) ((cs.drop (l*sz)).take ((h - l)*sz)) (h.beq m)) else none
 | .own id off n s cap lw=>
  let l:=lo.getD 0
  let h:=hi.getD n
  bif s.beq sz&&l.ble h&&hiOk h n cap lw then
   match mx with
   | none=>match cap with
    | none=>bif l.beq 0||(l+1).ble h then some (.own id (off+l*sz) (h - l) sz none (lw - l)) else some (.lst 0 [] false)
    | some c=>bif l.beq 0||(l+1).ble c then some (.own id (off+l*sz) (h - l) sz (some (c - l)) 0) else some (.lst 0 [] true)
   | some m=>bif h.ble m&&m.ble n&&hi.isSome&&(l.beq 0||(l+1).ble m) then some (.own id (off+l*sz) (h - l) sz (some (m - l)) 0) else none
  else none
 | _=>none
def Ys(sz:Nat)(x:AV)(lo hi mx:Option AV):Option AV:=
 (JC lo).bind fun l=>(JC hi).bind fun h=>(JC mx).bind fun m=>TF sz x l h m
def sliceSN(x:AV)(lo hi:Option Nat):Option AV:=
 match x with
 | .str s=>let l:=lo.getD 0
  let h:=hi.getD s.length
  bif l.ble h&&h.ble s.length then some (.str ((s.drop l).take (h - l))) else none
 | _=>none
def sliceSA(x:AV)(lo hi:Option AV):Option AV:=(JC lo).bind fun l=>(JC hi).bind fun h=>sliceSN x l h
def Jd:AV->Option AV
 | .ptr id off=>some (.ptr id off)
 | .fptr cs off=>some (.fptr cs off)
 | .func (.func f) a b=>some (.func (.func f) a b)
 | .iface t x=>some (.iface t x)
 | _=>none
def tassertA(t:TypeId)(zero:AV)(ok:Bool):AV->Option AV
 | .niface=>bif ok then some (.tuple [zero,.bool false]) else none
 | .iface u x=>bif u.beq t then (bif ok then some (.tuple [x,.bool true]) else some x) else bif ok then some (.tuple [zero,.bool false]) else none
 | _=>none
def KO(str:Bool):AV->AV->Option Bool
 | .int k a,.int k' b=>bif str then none else if k=k' then some (a==b) else none
 | .str a,.str b=>bif str then some (WQ a b) else none
 | _,_=>none
def Uz(str:Bool)(k:AV):List (AV × AV)->Option (Option AV)
 | []=>some none
 | (x,v)::es=>match KO str k x with
  | some true=>some (some v)
  | some false=>Uz str k es
  | none=>none
def JP(str:Bool)(zero:AV)(ok:Bool)(st:St)(m k:AV):Option AV:=
 let out (r:Option AV):AV:=match r with
  | some v=>bif ok then .tuple [v,.bool true] else v
  | none=>bif ok then .tuple [zero,.bool false] else zero
 match m with
 | .nilmap=>some (out none)
 | .map id=>match st.get id with
  | some (.map es)=>(Uz str k es).map out
  | some (.fmap es)=>(Uz str k es).map out
  | _=>none
 | _=>none
def putA(str:Bool)(k v:AV):List (AV × AV)->Option (List (AV × AV))
 | []=>some [(k,v)]
 | (x,u)::es=>match KO str k x with
  | some true=>some ((k,v)::es)
  | some false=>(putA str k v es).map ((x,u)::·)
  | none=>none
def Tw(str:Bool)(st:St)(m k v:AV):Option St:=
 match m with
 | .map id=>match st.get id with
  | some (.map es)=>(putA str k v es).map fun eQ=>st.put id (.map eQ)
  | _=>none
 | _=>none
def Y3:TypeDesc->Bool
 | .interface _=>false
 | _=>true
def Yl(zs:List AV):Nat->List AV
 | 0=>[]
 | n+1=>zs++Yl zs n
def msliceA(bytes sz:Nat)(zs:List AV)(st:St)(l c:AV):Option (AV × St):=
 match l,c with
 | .int _ (.ofNat l),.int _ (.ofNat c)=>
  bif l.ble c&&(bytes*c).ble 140737488355328&&c.ble 140737488355328&&zs.length.beq sz then some (.own st.next 0 l sz (some c) 0,st.new (.row (Yl zs c))) else none
 | _,_=>none
def appendzA(bytes sz:Nat)(zs:List AV)(st:St)(x k:AV):Option (AV × St):=
 match k with
 | .int _ (.ofNat n)=>bif (n*bytes).ble 140737488355328&&n.ble 140737488355328&&zs.length.beq sz then VX bytes sz st x n (Yl zs n) else none
 | _=>none
def isStr:AV->Bool
 | .str _=>true
 | _=>false
def copyA(sz:Nat)(st:St)(x y:AV):Option (AV × St):=
 bif isStr y then none else (Wd sz st y).bind fun p=>match x with
 | .own id off m s _ _=>match st.get id with
  | some (.row cs)=>
   let k:=Nat.min p.1 m
   let ys:=p.2.take (k*sz)
   bif s.beq sz&&off.ble cs.length&&ys.all AV.one then some (.int .i64 (.ofNat k),st.put id (.row (setCells cs off ys))) else none
  | _=>none
 | _=>none
def s2bA(st:St)(x:AV):Option (AV × St):=
 match x with
 | .str l=>some (.own st.next 0 l.length 1 none l.length,st.new (.row (l.map fun b=>.int .u8 (.ofNat b))))
 | _=>none
def byteA:AV->Option Nat
 | .int .u8 (.ofNat b)=>bif (b+1).ble 256 then some b else none
 | _=>none
def Uc:List AV->Option (List Nat)
 | []=>some []
 | x::xs=>(byteA x).bind fun b=>(Uc xs).map (b::·)
def b2sA(st:St)(x:AV):Option AV:=bif isStr x then none else (Wd 1 st x).bind fun p=>(Uc p.2).map .str
def eqPtrA(c:Nat)(op:BinOp)(x y:AV):Option AV:=
 match x,y with
 | .ptr i n,.ptr j m=>bif c.beq 0&&i.beq j then boolBin op (n.beq m) true else none
 | _,_=>none
def ptouA(st:St)(x:AV):Option AV:=
 match x with
 | .nilptr=>some .nilptr
 | .ptr id off=>match st.get id with
  | some (.row cs)=>bif (off+1).ble cs.length then some x else none
  | _=>none
 | _=>none
def utopA(u s:Nat)(st:St)(x:AV):Option AV:=
 match x with
 | .nilptr=>some .nilptr
 | .ptr id off=>match st.get id,st.bt.get id with
  | some (.row cs),some t=>bif t.beq u&&(off.mod s).beq 0&&(off.div s+1).ble (cs.length.div s) then some x else none
  | _,_=>none
 | _=>none
def sdatA(x:AV):Option AV:=
 match x with
 | .nilsl=>some .nilptr
 | .own id off n _ _ _=>bif n.beq 0 then none else some (.ptr id off)
 | _=>none
def ustrA(u:Nat)(st:St)(x n:AV):Option (AV × St):=
 match x,n with
 | .nilptr,.int _ (.ofNat 0)=>some (.str [],st)
 | .ptr id off,.int _ (.ofNat n)=>match st.get id,st.bt.get id with
  | some (.row cs),some t=>bif t.beq u&&(off+n).ble cs.length&&!n.beq 0&&n.ble 9223372036854775807 then (Uc ((cs.drop off).take n)).map fun l=>(.str l,st.del id) else none
  | _,_=>none
 | _,_=>none
def tagA(tg:Option Nat)(x v:AV)(st:St):St:=
 match tg,v with
 | some e,.own id _ _ _ _ _=>match x with
  | .nilsl=>st.tag id e
  | .own dQ _ _ _ _ _=>match st.bt.get dQ with
   | some t=>bif t.beq e then st.tag id e else st
   | none=>st
  | _=>st
 | _,_=>st
def rngA(st:St)(x:AV):Option (AV × St):=
 match x with
 | .map id=>match st.get id with
  | some (.map es)=>some (.ptr st.next 0,(st.put id (.fmap es)).new (.iter id []))
  | some (.fmap _)=>some (.ptr st.next 0,st.new (.iter id []))
  | _=>none
 | _=>none
def entA(st:St)(x:AV):Option AV:=
 match x with
 | .ptr id 0=>match st.get id with
  | some (.iter m ks)=>match ks.getLast? with
   | some i=>match st.get m with
    | some (.fmap es)=>(es[i]?).map fun e=>.tuple [e.1,e.2]
    | _=>none
   | none=>none
  | _=>none
 | _=>none
def Ps(sz:Nat)(zs:List AV)(st:St)(x:AV):Option St:=
 match x with
 | .nilsl=>some st
 | .own id off n s _ _=>match n with
  | 0=>some st
  | n=>match st.get id with
   | some (.row cs)=>bif s.beq sz&&zs.length.beq sz&&(off+n*sz).ble cs.length&&(Yl zs n).all AV.one then some (st.put id (.row (setCells cs off (Yl zs n)))) else none
   | _=>none
 | _=>none
def isNeq:BinOp->Bool
 | .neq=>true
 | _=>false
def intFs(P:Program):Nat->List Field->Bool
 | _,[]=>true
 | i,f::fs=>!(f.name== "_")&&f.offset.beq i&&(match P.underlying f.type with
  | some (.int _)=>true
  | _=>false)&&intFs P (i+1) fs
def Ub:List AV->List AV->Option Bool
 | [],[]=>some true
 | .int k a::xs,.int l b::ys=>bif decide (k=l) then (Ub xs ys).map fun r=>decide (a=b)&&r else none
 | _,_=>none
def eqagA(n:Nat)(neg:Bool)(x y:AV):Option AV:=
 match x,y with
 | .agg cs,.agg ds=>bif cs.length.beq n then (Ub cs ds).map fun r=>.bool (bif neg then !r else r) else none
 | _,_=>none
inductive X where
 | t (n:Nat)
 | c (v:AV)
 deriving Inhabited
inductive Rz where
 | mv (x:X)
 | pick (c a b:X)
 | alloc (zs:List AV)
 | allocT (t:Nat) (zs:List AV)
 | box (fz:Bool) (x:X)
 | build (zs:List AV) (ps:List (Nat × Nat × X))
 | bslice (n:Nat) (zs:List AV) (ps:List (Nat × Nat × X))
 | bsliceO (e n sz:Nat) (zs:List AV) (ps:List (Nat × Nat × X))
 | load (agg:Bool) (n:Nat) (x:X)
 | store (n:Nat) (a x:X)
 | nilchk (x:X)
 | bin (b:Bool) (op:BinOp) (x y:X)
 | eqnil (c:Nat) (pz:Bool) (op:BinOp) (x y:X)
 | un (op:UnOp) (x:X)
 | conv (k:IntKind) (x:X)
 | mkif (t:Nat) (x:X)
 | mkfn (fn:Nat) (xs ys:List X)
 | mkmap
 | rng (x:X)
 | next (x:X)
 | ent (x:X)
 | clr (sz:Nat) (zs:List AV) (x:X)
 | eqag (n:Nat) (neg:Bool) (x y:X)
 | slice (sz:Nat) (x:X) (lo hi mx:Option X)
 | sliceS (x:X) (lo hi:Option X)
 | faddr (off:Nat) (x:X)
 | field (agg:Bool) (off n:Nat) (x:X)
 | iaddr (sz:Nat) (x i:X)
 | aaddr (n sz:Nat) (x i:X)
 | sidx (x i:X)
 | aidx (agg:Bool) (len n:Nat) (x i:X)
 | lookup (str:Bool) (zero:AV) (ok:Bool) (m k:X)
 | mapup (str:Bool) (m k v:X)
 | tassert (t:Nat) (zero:AV) (ok:Bool) (x:X)
 | extract (i:Nat) (x:X)
 | len (c:Nat) (x:X)
 | cap (x:X)
 | max (x:X) (xs:List X)
 | min (x:X) (xs:List X)
 | append (bytes sz:Nat) (tg:Option Nat) (x y:X)
 | s2b (x:X)
 | b2s (x:X)
 | mksl (bytes sz:Nat) (zs:List AV) (l c:X)
 | appendz (bytes sz:Nat) (zs:List AV) (x k:X)
 | copy (sz:Nat) (x y:X)
 | ptou (x:X)
 | utop (u s:Nat) (x:X)
 | sdat (x:X)
 | ustr (u:Nat) (x n:X)
 | panic (x:X)
 | call (f:X) (xs:List X)
 | defer (f:X) (xs:List X)
 | recov
 | bad
 deriving Inhabited
structure Vc where
 dst:Option Nat
 op:Rz
 guard:Option (Nat × Bool)
 deriving Inhabited
inductive DA where
 | call (n:Nat) (args:List AV)
 | coll
 deriving Inhabited
structure Fr where
 t:Tr AV
 ds:List DA
 deriving Inhabited
def Fr.get(fr:Fr)(n:Nat):Option AV:=fr.t.get n
def Fr.set(fr:Fr)(n:Nat)(o:Option AV):Fr:={ fr with t:=fr.t.set n o }
def Fr.nil:Fr:=⟨.nil,[]⟩
def ev(fr:Fr):X->AV
 | .t n=>(fr.get n).getD .undef
 | .c v=>v
inductive R4 where
 | val (v:AV) (st:St)
 | pan (v:AV) (st:St)
 | stuck
 deriving Inhabited
def R4.of(st:St):Option AV->R4
 | some v=>.val v st
 | none=>.stuck
def R4.of2:Option (AV × St)->R4
 | some (v,st)=>.val v st
 | none=>.stuck
def R4.ofSt:Option St->R4
 | some st=>.val .undef st
 | none=>.stuck
def panicR(st:St)(x:AV):R4:=
 match x with
 | .iface t y=>.pan (.iface t y) st
 | _=>.stuck
def Vr(b:Bool)(op:BinOp)(x y:AV):Option AV:=
 match x with
 | .bool _=>bif b then binA op x y else none
 | _=>binA op x y
def VD(c:Nat)(x:AV):Bool:=
 match x with
 | .nilsl=>c.beq 0
 | .lst _ _ _=>c.beq 0
 | .own _ _ _ _ _ _=>c.beq 0
 | .str _=>c.beq 1
 | .nilmap=>c.beq 2
 | .map _=>c.beq 2
 | _=>false
def WT(fr:Fr)(ps:List (Nat × Nat × X)):List (Nat × Nat × AV):=ps.map fun p=>(p.1,p.2.1,ev fr p.2.2)
def R8(fr:Fr)(st:St):Rz->R4
 | .mv x=>.val (ev fr x) st
 | .pick c a b=>match ev fr c with
  | .bool c=>.val (bif c then ev fr a else ev fr b) st
  | _=>.stuck
 | .alloc zs=>.val (.ptr st.next 0) (st.new (.row zs))
 | .allocT t zs=>.val (.ptr st.next 0) ((st.new (.row zs)).tag st.next t)
 | .box fz x=>bif fz then .val (.fptr (ev fr x).cells 0) st else .val (.ptr st.next 0) (st.new (.row (ev fr x).cells))
 | .build zs ps=>R4.of st ((VN zs (WT fr ps)).map .agg)
 | .bslice n zs ps=>R4.of st ((VN zs (WT fr ps)).map fun cs=>.lst n cs true)
 | .bsliceO e n sz zs ps=>R4.of2 ((VN zs (WT fr ps)).bind fun cs=>bif cs.length.beq (n*sz) then some (AV.own st.next 0 n sz (some n) 0,(st.new (.row cs)).tag st.next e) else none)
 | .load agg n x=>R4.of st (Vf agg n st (ev fr x))
 | .store n a x=>R4.ofSt (Vt n st (ev fr a) (ev fr x))
 | .nilchk x=>R4.of st (Jd (ev fr x))
 | .bin b op x y=>R4.of st (Vr b op (ev fr x) (ev fr y))
 | .eqnil c pz op x y=>R4.of st (match Rg c op (ev fr x) (ev fr y) with
  | some v=>some v
  | none=>bif pz then eqPtrA c op (ev fr x) (ev fr y) else none)
 | .un op x=>R4.of st (unA op (ev fr x))
 | .conv k x=>R4.of st (convA k (ev fr x))
 | .mkif t x=>.val (.iface t (ev fr x)) st
 | .mkfn f xs ys=>.val (.func (.func f) (xs.map (ev fr)) (ys.map (ev fr))) st
 | .mkmap=>.val (.map st.next) (st.new (.map []))
 | .rng x=>R4.of2 (rngA st (ev fr x))
 | .next _=>.stuck
 | .ent x=>R4.of st (entA st (ev fr x))
 | .eqag n neg x y=>R4.of st (eqagA n neg (ev fr x) (ev fr y))
 | .clr sz zs x=>R4.of2 ((Ps sz zs st (ev fr x)).map fun s=>(AV.undef,s))
 | .slice sz x lo hi mx=>R4.of st (Ys sz (ev fr x) (lo.map (ev fr)) (hi.map (ev fr)) (mx.map (ev fr)))
 | .sliceS x lo hi=>R4.of st (sliceSA (ev fr x) (lo.map (ev fr)) (hi.map (ev fr)))
 | .faddr off x=>R4.of st (WG off (ev fr x))
 | .field agg off n x=>R4.of st (TN agg off n (ev fr x))
 | .iaddr sz x i=>R4.of st (VC sz (ev fr x) (ev fr i))
 | .aaddr n sz x i=>R4.of st (UC n sz (ev fr x) (ev fr i))
 | .sidx x i=>R4.of st (sindexA (ev fr x) (ev fr i))
 | .aidx agg len n x i=>R4.of st (aindexA agg len n (ev fr x) (ev fr i))
 | .lookup str zero ok m k=>R4.of st (JP str zero ok st (ev fr m) (ev fr k))
 | .mapup str m k v=>R4.ofSt (Tw str st (ev fr m) (ev fr k) (ev fr v))
 | .tassert t zero ok x=>R4.of st (tassertA t zero ok (ev fr x))
 | .extract i x=>R4.of st (WJ i (ev fr x))
 | .len c x=>R4.of st (bif VD c (ev fr x) then Wm st (ev fr x) else none)
 | .cap x=>R4.of st (capA (ev fr x))
 | .max x xs=>R4.of st (foldA maxA (ev fr x) (xs.map (ev fr)))
 | .min x xs=>R4.of st (foldA minA (ev fr x) (xs.map (ev fr)))
 | .append bytes sz tg x y=>match Wd sz st (ev fr y) with
  | some (n,ys)=>match VX bytes sz st (ev fr x) n ys with
   | some (v,af)=>.val v (tagA tg (ev fr x) v af)
   | none=>.stuck
  | none=>.stuck
 | .s2b x=>R4.of2 (s2bA st (ev fr x))
 | .b2s x=>R4.of st (b2sA st (ev fr x))
 | .mksl bytes sz zs l c=>R4.of2 (msliceA bytes sz zs st (ev fr l) (ev fr c))
 | .appendz bytes sz zs x k=>R4.of2 (appendzA bytes sz zs st (ev fr x) (ev fr k))
 | .copy sz x y=>R4.of2 (copyA sz st (ev fr x) (ev fr y))
 | .ptou x=>R4.of st (ptouA st (ev fr x))
 | .utop u s x=>R4.of st (utopA u s st (ev fr x))
 | .sdat x=>R4.of st (sdatA (ev fr x))
 | .ustr u x n=>R4.of2 (ustrA u st (ev fr x) (ev fr n))
 | .panic x=>panicR st (ev fr x)
 | .call _ _=>.stuck
 | .defer _ _=>.stuck
 | .recov=>.stuck
 | .bad=>.stuck
mutual
def cv:Nat->Value->Option AV
 | 0,_=>none
 | f+1,v=>match v with
  | .bool b=>some (.bool b)
  | .int k n=>some (.int k n)
  | .string s=>some (.str (s.data.toList.map (·.toNat)))
  | .pointer none=>some .nilptr
  | .slice none 0 0=>some .nilsl
  | .map none=>some .nilmap
  | .nilFunc=>some .nilfn
  | .nilIface=>some .niface
  | .iface t x=>(cv f x).map (.iface t)
  | .agg cs=>(cvL f cs.toList).map .agg
  | .tuple cs=>(cvL f cs.toList).map .tuple
  | _=>none
def cvL:Nat->List Value->Option (List AV)
 | 0,_=>none
 | _+1,[]=>some []
 | f+1,v::vs=>(cv f v).bind fun x=>(cvL f vs).map (x::·)
end
def cx:Operand->Option X
 | .tmp t=>some (.t t)
 | .const v=>(cv 400 v).map .c
 | .func f=>some (.c (.func (.func f) [] []))
 | .global _=>none
def cxs:List Operand->Option (List X)
 | []=>some []
 | o::os=>(cx o).bind fun x=>(cxs os).map (x::·)
def cxo:Option Operand->Option (Option X)
 | none=>some none
 | some o=>(cx o).map some
def Tk(place:Nat->Option (Nat × Nat)):List (Nat × Operand)->Option (List (Nat × Nat × X))
 | []=>some []
 | (i,o)::ps=>(place i).bind fun p=>(cx o).bind fun x=>(Tk place ps).map ((p.1,p.2,x)::·)
def KP(i:TypeInfo):Option (List AV):=i.zero.bind fun z=>cvL 400 z.cells.toList
def Td:Operand->Bool
 | .const _=>true
 | _=>false
def keyStr:TypeDesc->Option Bool
 | .string=>some true
 | .int _=>some false
 | _=>none
def lenKind:TypeDesc->Option Nat
 | .slice _=>some 0
 | .string=>some 1
 | .map _ _=>some 2
 | _=>none
def isBool:TypeDesc->Bool
 | .bool=>true
 | _=>false
def isEq:BinOp->Bool
 | .eql=>true
 | .neq=>true
 | _=>false
def isU8(P:Program)(e:TypeId):Bool:=
 match P.underlying e with
 | some (.int .u8)=>true
 | _=>false
def ptrSized(P:Program)(d:TypeDesc):Bool:=
 match d with
 | .pointer q=>(match P.info? q with | some i=>!(i.size.beq 0) | none=>false)
 | _=>false
def cbin(P:Program)(op:BinOp)(t:TypeId)(x y:Operand):Option Rz:=
 (P.underlying t).bind fun d=>(cx x).bind fun wq=>(cx y).bind fun wt=>
 match Yy d with
 | some c=>bif isEq op&&(!(c.beq 4)||Td x||Td y) then some (.eqnil c (ptrSized P d) op wq wt) else none
 | none=>match d with
  | .struct fs=>bif isEq op&&intFs P 0 fs.toList&&!P.stoodInHeld t&&!P.eqGuardType P.depth t then some (.eqag fs.size (isNeq op) wq wt) else none
  | d=>some (.bin (isBool d) op wq wt)
def cbuild(P:Program)(t:TypeId)(ps:Array (Nat × Operand)):Option Rz:=
 (P.info? t).bind fun i=>(KP i).bind fun zs=>
 match P.underlying t with
 | some (.struct fs)=>(fs.toList.mapM (fun f=>(P.info? f.type).map fun i=>(f.offset,i.size))).bind fun places=>
  (Tk (places.toArray[·]?) ps.toList).map (.build zs)
 | some (.array _ e)=>(P.info? e).bind fun ie=>(Tk (fun k=>some (k*ie.size,ie.size)) ps.toList).map (.build zs)
 | _=>none
def zrow(n:Nat)(z:Value)(sz:Nat):Array Value:=
 (Array.range (n*sz)).map ((if n*sz=0 then #[] else z.cells)[· % (if n*sz=0 then #[] else z.cells).size]!)
def cbslice(P:Program)(fz:Bool)(t:TypeId)(n:Nat)(ps:Array (Nat × Operand)):Option Rz:=
 match P.underlying t with
 | some (.slice e)=>(P.info? e).bind fun i=>i.zero.bind fun z=>(cvL 4000 (zrow n z i.size).toList).bind fun zs=>
  bif (n*i.size).ble 16777216 then (Tk (fun k=>some (k*i.size,i.size)) ps.toList).map (bif fz then .bsliceO e n i.size zs else .bslice n zs) else none
 | _=>none
def sliceStr(P:Program)(u:TypeId):Bool:=match P.underlying u with
 | some (.slice _)=>true
 | some .string=>true
 | _=>false
def cappend(P:Program)(ts:Array TypeId)(x y:Operand):Option Rz:=
 (ts[0]?).bind fun t=>(ts[1]?).bind fun u=>match P.underlying t with
  | some (.slice e)=>(P.info? e).bind fun i=>i.zero.bind fun z=>
   match P.underlying u with
   | some (.int _)=>(KP i).bind fun zs=>(cx x).bind fun x=>(cx y).map (.appendz i.bytes i.size zs x)
   | _=>bif z.cells.size.beq i.size&&sliceStr P u then
    (cx x).bind fun x=>(cx y).map (.append i.bytes i.size (bif isU8 P e then some e else none) x) else none
  | _=>none
def cbuiltin(P:Program)(b:Builtin)(ts:Array TypeId)(args:List Operand):Option Rz:=
 match args with
 | []=>none
 | x::xs=>match b with
  | .max=>(cx x).bind fun x=>(cxs xs).map (.max x)
  | .min=>(cx x).bind fun x=>(cxs xs).map (.min x)
  | .len=>match xs with
   | []=>(ts[0]?).bind fun t=>(P.underlying t).bind fun d=>(lenKind d).bind fun c=>(cx x).map (.len c)
   | _=>none
  | .cap=>match xs with
   | []=>(ts[0]?).bind fun t=>match P.underlying t with
    | some (.slice _)=>(cx x).map .cap
    | _=>none
   | _=>none
  | .panic=>match xs with
   | []=>(cx x).map .panic
   | _=>none
  | .append=>match xs with
   | [y]=>cappend P ts x y
   | _=>none
  | .copy=>match xs with
   | [y]=>(ts[0]?).bind fun t=>match P.underlying t with
    | some (.slice e)=>(P.info? e).bind fun i=>(cx x).bind fun x=>(cx y).map (.copy i.size x)
    | _=>none
   | _=>none
  | .clear=>match xs with
   | []=>(ts[0]?).bind fun t=>match P.underlying t with
    | some (.slice e)=>(P.info? e).bind fun i=>(KP i).bind fun zs=>(cx x).map (.clr i.size zs)
    | _=>none
   | _=>none
  | .unsafeSliceData=>match xs with
   | []=>(cx x).map .sdat
   | _=>none
  | .unsafeString=>match xs with
   | [y]=>(ts[0]?).bind fun pt=>match P.underlying pt with
    | some (.pointer u)=>(P.info? u).bind fun i=>bif i.size.beq 1 then (cx x).bind fun x=>(cx y).map (.ustr u x) else none
    | _=>none
   | _=>none
  | _=>none
def cconv(P:Program)(ds:TypeDesc)(t:TypeId)(x:Operand):Option Rz:=
 match P.underlying t with
 | some (.int k)=>(cx x).map (.conv k)
 | some (.slice e)=>match ds with
  | .string=>bif isU8 P e&&(!e.beq Uf&&!e.beq Pe) then (cx x).map .s2b else none
  | _=>none
 | some .string=>match ds with
  | .slice e=>bif isU8 P e then (cx x).map .b2s else none
  | _=>none
 | some .unsafePointer=>match ds with
  | .pointer q=>(P.info? q).bind fun i=>bif i.size.beq 0 then none else (cx x).map .ptou
  | _=>none
 | some (.pointer u)=>match ds with
  | .unsafePointer=>(P.info? u).bind fun i=>bif i.size.beq 0 then none else (cx x).map (.utop u i.size)
  | _=>none
 | _=>none
def cop1(P:Program)(fz:Bool)(o:Oper):Option Rz:=
 match o.op with
 | .move x=>(cx x).map .mv
 | .assign x=>(cx x).map .mv
 | .pick c a b=>(cx c).bind fun c=>(cx a).bind fun a=>(cx b).map (.pick c a)
 | .alloc t=>(P.info? t).bind fun i=>(KP i).map fun zs=>bif fz then .allocT t zs else .alloc zs
 | .box _ x=>(cx x).map (.box fz)
 | .build t ps=>cbuild P t ps
 | .buildSlice t n ps=>cbslice P fz t n ps
 | .load t x=>(P.underlying t).bind fun d=>(P.info? t).bind fun i=>(cx x).map (.load (Uh d) i.size)
 | .store t a x=>(P.info? t).bind fun i=>(cx a).bind fun a=>(cx x).map (.store i.size a)
 | .nilCheck x=>(cx x).map .nilchk
 | .binOp op t x y _=>cbin P op t x y
 | .unOp op _ x=>(cx x).map (.un op)
 | .convert s t x=>(P.underlying s).bind fun ds=>cconv P ds t x
 | .makeInterface t x=>(P.underlying t).bind fun d=>bif Y3 d then (cx x).map (.mkif t) else none
 | .makeFunc (.func f) xs ys=>(cxs xs.toList).bind fun xs=>(cxs ys.toList).map (.mkfn f xs)
 | .makeMap t none=>match P.underlying t with
  | some (.map _ _)=>some .mkmap
  | _=>none
 | .range t x=>match P.underlying t with
  | some (.map _ _)=>(cx x).map .rng
  | _=>none
 | .next x false=>(cx x).map .next
 | .entry x=>(cx x).map .ent
 | .makeSlice t l c=>match P.underlying t with
  | some (.slice e)=>(P.info? e).bind fun i=>(KP i).bind fun zs=>(cx l).bind fun l=>(cx c).map (.mksl i.bytes i.size zs l)
  | _=>none
 | .slice t x lo hi mx=>(cx x).bind fun x=>(cxo lo).bind fun lo=>(cxo hi).bind fun hi=>(cxo mx).bind fun mx=>
  match P.underlying t with
  | some (.slice e)=>(P.info? e).map fun i=>.slice i.size x lo hi mx
  | some .string=>match mx with
   | none=>some (.sliceS x lo hi)
   | some _=>none
  | _=>none
 | .fieldAddr s x f=>match P.underlying s with
  | some (.struct fs)=>(fs[f]?).bind fun fd=>(P.info? fd.type).bind fun i=>bif i.size.beq 0 then none else (cx x).map (.faddr fd.offset)
  | _=>none
 | .field s x f=>match P.underlying s with
  | some (.struct fs)=>(fs[f]?).bind fun fd=>(P.info? fd.type).bind fun i=>(P.underlying fd.type).bind fun d=>(cx x).map (.field (Uh d) fd.offset i.size)
  | _=>none
 | .indexAddr t x i=>(cx x).bind fun x=>(cx i).bind fun i=>match P.underlying t with
  | some (.slice e)=>(P.info? e).map fun ie=>.iaddr ie.size x i
  | some (.array n e)=>(P.info? e).map fun ie=>.aaddr n ie.size x i
  | _=>none
 | .index t x i=>(cx x).bind fun x=>(cx i).bind fun i=>match P.underlying t with
  | some .string=>some (.sidx x i)
  | some (.array n e)=>(P.info? e).bind fun ie=>(P.underlying e).map fun d=>.aidx (Uh d) n ie.size x i
  | _=>none
 | .lookup t m k ok=>match P.underlying t with
  | some (.map kt et)=>(P.underlying kt).bind fun d=>(keyStr d).bind fun str=>(P.info? et).bind fun i=>i.zero.bind fun z=>(cv 400 z).bind fun zero=>
   (cx m).bind fun m=>(cx k).map (.lookup str zero ok m)
  | _=>none
 | .mapUpdate t m k v=>match P.underlying t with
  | some (.map kt _)=>(P.underlying kt).bind fun d=>(keyStr d).bind fun str=>(cx m).bind fun m=>(cx k).bind fun k=>(cx v).map (.mapup str m k)
  | _=>none
 | .typeAssert x _ t ok=>(P.underlying t).bind fun d=>bif Y3 d then (P.info? t).bind fun i=>i.zero.bind fun z=>(cv 400 z).bind fun zero=>(cx x).map (.tassert t zero ok) else none
 | .extract x i=>(cx x).map (.extract i)
 | .panic x=>(cx x).map .panic
 | .call { callee:=.builtin b,args,argTypes }=>cbuiltin P b argTypes args.toList
 | _=>none
def Rz.isCall:Rz->Bool
 | .call _ _=>true
 | _=>false
def Rz.special:Rz->Bool
 | .defer _ _=>true
 | .recov=>true
 | _=>false
def U3(o:Oper):Option Rz:=
 match o.op with
 | .call { callee:=.value f,args,argTypes:=_ }=>(cx f).bind fun f=>(cxs args.toList).map (.call f)
 | _=>none
def cop(P:Program)(fz:Bool)(o:Oper):Option Rz:=
 match U3 o with
 | some m=>some m
 | none=>(cop1 P fz o).bind fun m=>bif m.isCall||m.special then none else some m
inductive FR where
 | ret (v:AV) (st:St)
 | pan (v:AV) (st:St)
 | stuck
 deriving Inhabited
structure Cg where
 fn:Nat->List AV->St->FR
 yld:Nat->List AV->St->FR
def FR.toOp:FR->R4
 | .ret v st=>.val v st
 | .pan v st=>.pan v st
 | .stuck=>.stuck
def YJ(Γ:Cg)(f:AV)(args:List AV)(st:St):R4:=
 match f with
 | .func (.func n) first captured=>(Γ.fn n (first++args++captured) st).toOp
 | .yld id=>match Γ.yld id args st with
  | .ret v st=>.val v st
  | _=>.stuck
 | _=>.stuck
def RD(Γ:Cg)(fr:Fr)(st:St)(m:Rz):R4:=
 match m with
 | .call f xs=>YJ Γ (ev fr f) (xs.map (ev fr)) st
 | m=>R8 fr st m
def Fr.put(fr:Fr)(d:Option Nat)(v:AV):Fr:=
 match d with
 | some d=>fr.set d (some v)
 | none=>fr
inductive RR where
 | ok (fr:Fr) (st:St)
 | pan (fr:Fr) (v:AV) (st:St)
 | stuck
 deriving Inhabited
def Vv(fr:Fr)(g:Option (Nat × Bool)):Option Bool:=
 match g with
 | none=>some true
 | some (t,want)=>match (fr.get t).getD .undef with
  | .bool b=>some (bif want then b else !b)
  | .undef=>some false
  | _=>none
def Rz.isDefer:Rz->Bool
 | .defer _ _=>true
 | _=>false
def Jr(fr:Fr)(m:Rz):Option Fr:=
 match m with
 | .defer f xs=>match ev fr f with
  | .func (.func n) first captured=>some { fr with ds:=.call n (first++xs.map (ev fr)++captured)::fr.ds }
  | _=>none
 | _=>none
def Vj(Γ:Cg):List Vc->Fr->St->RR
 | [],fr,st=>.ok fr st
 | m::ms,fr,st=>match Vv fr m.guard with
  | some true=>bif m.op.isDefer then
    match Jr fr m.op with
    | some aa=>Vj Γ ms (Fr.put aa m.dst .undef) st
    | none=>.stuck
   else match RD Γ fr st m.op with
   | .val v af=>Vj Γ ms (Fr.put fr m.dst v) af
   | .pan v af=>.pan fr v af
   | .stuck=>.stuck
  | some false=>Vj Γ ms (Fr.put fr m.dst .undef) st
  | none=>.stuck
def cguard(ops:Array Oper)(o:Oper):Option (Option (Nat × Bool)):=
 match o.guard with
 | none=>some none
 | some (g,want)=>((ops[g]?).bind (·.dst)).map fun t=>some (t,want)
def Un(N:Nat):Option Nat->Bool
 | none=>true
 | some d=>(d+1).ble N
def YD(rd:Bool)(o:Oper):Option Rz:=
 match o.op with
 | .defer { callee:=.value f,args,argTypes:=_ }=>bif rd then none else (cx f).bind fun f=>(cxs args.toList).map (.defer f)
 | .call { callee:=.builtin .recover,args:=_,argTypes:=_ }=>some .recov
 | _=>none
def coper(P:Program)(ops:Array Oper)(N:Nat)(rd fz:Bool)(o:Oper):Option Vc:=
 (cguard ops o).bind fun g=>bif Un N o.dst then some { dst:=o.dst,op:=match YD rd o with | some m=>m | none=>(cop P fz o).getD .bad,guard:=g } else none
def Yx(P:Program)(ops:Array Oper)(N:Nat)(rd:Bool)(pol:Nat->Bool):Nat->List Oper->Option (List Vc)
 | _,[]=>some []
 | i,o::os=>(coper P ops N rd (pol i) o).bind fun m=>(Yx P ops N rd pol (i+1) os).map (m::·)
def TO:Int->Int->Bool
 | .ofNat a,.ofNat b=>a.beq b
 | .negSucc a,.negSucc b=>a.beq b
 | _,_=>false
def onBeq:Option Nat->Option Nat->Bool
 | none,none=>true
 | some a,some b=>a.beq b
 | _,_=>false
def fnBeq:Fn->Fn->Bool
 | .func a,.func b=>a.beq b
 | _,_=>false
mutual
def V8:AV->AV->Bool
 | .undef,.undef=>true
 | .bool a,.bool b=>bif a then b else !b
 | .int k a,.int l b=>decide (k=l)&&TO a b
 | .str a,.str b=>WQ a b
 | .nilptr,.nilptr=>true
 | .ptr a b,.ptr c d=>a.beq c&&b.beq d
 | .fptr a b,.fptr c d=>b.beq d&&VG a c
 | .nilsl,.nilsl=>true
 | .lst n a x,.lst m b y=>n.beq m&&(bif x then y else !y)&&VG a b
 | .own a b c d e f,.own a' b' c' d' e' f'=>a.beq a'&&b.beq b'&&c.beq c'&&d.beq d'&&onBeq e e'&&f.beq f'
 | .nilmap,.nilmap=>true
 | .map a,.map b=>a.beq b
 | .func f a b,.func g c d=>fnBeq f g&&VG a c&&VG b d
 | .nilfn,.nilfn=>true
 | .niface,.niface=>true
 | .iface t a,.iface u b=>Nat.beq t u&&V8 a b
 | .agg a,.agg b=>VG a b
 | .tuple a,.tuple b=>VG a b
 | .top,.top=>true
 | .yld a,.yld b=>a.beq b
 | _,_=>false
def VG:List AV->List AV->Bool
 | [],[]=>true
 | x::xs,y::ys=>V8 x y&&VG xs ys
 | _,_=>false
end
def Rz.effect:Rz->Bool
 | .store _ _ _=>true
 | .mapup _ _ _ _=>true
 | .mkmap=>true
 | .bsliceO _ _ _ _ _=>true
 | .rng _=>true
 | .next _=>true
 | .ent _=>true
 | .clr _ _ _=>true
 | .append _ _ _ _ _=>true
 | .allocT _ _=>true
 | .ustr _ _ _=>true
 | .appendz _ _ _ _ _=>true
 | .copy _ _ _=>true
 | .s2b _=>true
 | .box fz _=>!fz
 | .panic _=>true
 | .call _ _=>true
 | _=>false
def Rz.reads:Rz->Bool
 | .load _ _ _=>true
 | .lookup _ _ _ _ _=>true
 | .len _ _=>true
 | .b2s _=>true
 | .alloc _=>true
 | .mksl _ _ _ _ _=>true
 | .ptou _=>true
 | .utop _ _ _=>true
 | _=>false
def Rz.xs:Rz->List X
 | .mv x=>[x]
 | .pick c a b=>[c,a,b]
 | .alloc _=>[]
 | .allocT _ _=>[]
 | .box _ x=>[x]
 | .build _ ps=>ps.map fun p=>p.2.2
 | .bslice _ _ ps=>ps.map fun p=>p.2.2
 | .bsliceO _ _ _ _ ps=>ps.map fun p=>p.2.2
 | .load _ _ x=>[x]
 | .store _ a x=>[a,x]
 | .nilchk x=>[x]
 | .bin _ _ x y=>[x,y]
 | .eqnil _ _ _ x y=>[x,y]
 | .un _ x=>[x]
 | .conv _ x=>[x]
 | .mkif _ x=>[x]
 | .mkfn _ xs ys=>xs++ys
 | .mkmap=>[]
 | .rng x=>[x]
 | .next x=>[x]
 | .ent x=>[x]
 | .clr _ _ x=>[x]
 | .eqag _ _ x y=>[x,y]
 | .slice _ x lo hi mx=>x::(lo.toList++hi.toList++mx.toList)
 | .sliceS x lo hi=>x::(lo.toList++hi.toList)
 | .faddr _ x=>[x]
 | .field _ _ _ x=>[x]
 | .iaddr _ x i=>[x,i]
 | .aaddr _ _ x i=>[x,i]
 | .sidx x i=>[x,i]
 | .aidx _ _ _ x i=>[x,i]
 | .lookup _ _ _ m k=>[m,k]
 | .mapup _ m k v=>[m,k,v]
 | .tassert _ _ _ x=>[x]
 | .extract _ x=>[x]
 | .len _ x=>[x]
 | .cap x=>[x]
 | .max x xs=>x::xs
 | .min x xs=>x::xs
 | .append _ _ _ x y=>[x,y]
 | .ptou x=>[x]
 | .utop _ _ x=>[x]
 | .sdat x=>[x]
 | .ustr _ x n=>[x,n]
 | .s2b x=>[x]
 | .b2s x=>[x]
 | .mksl _ _ _ l c=>[l,c]
 | .appendz _ _ _ x k=>[x,k]
 | .copy _ x y=>[x,y]
 | .panic x=>[x]
 | .call f xs=>f::xs
 | .defer f xs=>f::xs
 | .recov=>[]
 | .bad=>[]
def X.tm:X->Option Nat
 | .t n=>some n
 | .c _=>none
def Vc.uses(m:Vc):List Nat:=(m.guard.map Prod.fst).toList++m.op.xs.filterMap X.tm
def msliceD(bytes sz:Nat)(zs:List AV)(id:Nat)(st:St)(l c:AV):Option AV:=
 match l,c,st.get id with
 | .int _ (.ofNat l),.int _ (.ofNat c),some (.row cs)=>
  bif l.ble c&&(bytes*c).ble 140737488355328&&c.ble 140737488355328&&zs.length.beq sz&&VG cs (Yl zs c) then some (.own id 0 l sz (some c) 0) else none
 | _,_,_=>none
def V5(Γ:Cg)(id:Nat)(fr:Fr)(st:St)(m:Rz):R4:=
 match m with
 | .alloc zs=>match st.get id with
  | some (.row cs)=>bif VG cs zs then .val (.ptr id 0) st else .stuck
  | _=>.stuck
 | .mksl bytes sz zs l c=>R4.of st (msliceD bytes sz zs id st (ev fr l) (ev fr c))
 | m=>RD Γ fr st m
inductive RF where
 | dead
 | val (fr:Fr) (st:St) (v:AV) (af:St)
 | pan (fr:Fr) (st:St) (v:AV) (af:St)
 deriving Inhabited
def VT:List (Vc × Nat)->List Nat->St->St
 | [],_,st=>st
 | z::zs,ns,st=>match z.1.op with
  | .alloc cs=>VT zs ns (st.new (.row cs))
  | .mksl _ _ cs _ _=>VT zs ns.tail (st.new (.row (Yl cs (ns.headD 0))))
  | _=>VT zs ns st
def JD(Γ:Cg):List (Vc × Nat)->Fr->St->List Nat
 | [],_,_=>[]
 | z::zs,fr,st=>match Vv fr z.1.guard with
  | some true=>(match RD Γ fr st z.1.op with
   | .val v af=>(match z.1.op with
    | .mksl _ _ _ _ _=>(match v with | .own _ _ _ _ (some n) _=>n | _=>0)::JD Γ zs (Fr.put fr z.1.dst v) af
    | _=>JD Γ zs (Fr.put fr z.1.dst v) af)
   | _=>[])
  | _=>(match z.1.op with
   | .mksl _ _ _ _ _=>0::JD Γ zs (Fr.put fr z.1.dst .undef) st
   | _=>JD Γ zs (Fr.put fr z.1.dst .undef) st)
def lens(Γ:Cg)(zs:List (Vc × Nat))(fr:Fr)(st:St):List Nat:=bif zs.any (fun z=>match z.1.op with | .mksl _ _ _ _ _=>true | _=>false) then JD Γ zs fr st else []
def VJ(id:Nat):Rz->Nat
 | .alloc _=>id+1
 | .mksl _ _ _ _ _=>id+1
 | _=>id
def Wf:List (Vc × Nat)->Nat->Nat->Nat
 | [],_,id=>id
 | _::_,0,id=>id
 | z::zs,j+1,id=>Wf zs j (VJ id z.1.op)
def Ku(pan:Option Nat)(anc:Nat):Bool:=
 match pan with
 | none=>false
 | some k=>anc.testBit k
abbrev DR:=List RF × Fr × St
def DR.cons(it:RF):Option DR->Option DR
 | some d=>some (it::d.1,d.2)
 | none=>none
def Wq(Γ:Cg):List (Vc × Nat)->Nat->Nat->Fr->St->Option Nat->Option DR
 | [],_,_,fr,st,_=>some ([],fr,st)
 | z::zs,i,id,fr,st,pan=>
  bif Ku pan z.2 then DR.cons .dead (Wq Γ zs (i+1) (VJ id z.1.op) fr st pan)
  else match Vv fr z.1.guard with
   | some true=>match V5 Γ id fr st z.1.op with
    | .val v af=>DR.cons (.val fr st v af) (Wq Γ zs (i+1) (VJ id z.1.op) (Fr.put fr z.1.dst v) af pan)
    | .pan v af=>match pan with
     | none=>DR.cons (.pan fr st v af) (Wq Γ zs (i+1) (VJ id z.1.op) fr st (some i))
     | some _=>none
    | .stuck=>none
   | some false=>DR.cons (.val fr st .undef st) (Wq Γ zs (i+1) (VJ id z.1.op) (Fr.put fr z.1.dst .undef) st pan)
   | none=>none
def JE:List RF->Option (AV × St)
 | []=>none
 | .pan _ _ v af::_=>some (v,af)
 | _::ak=>JE ak
def ancFold(f:Nat->Nat)(l:List Edge)(s:Nat):Nat:=l.foldl (fun s e=>if Region.binds .any e then s ||| 2 ^ e.on ||| f e.on else s) s
def YN(zs:List (Vc × Nat))(i:Nat):Nat:=match zs[i]? with | some z=>z.2 | none=>0
def effAt(zs:List (Vc × Nat))(i:Nat):Bool:=match zs[i]? with | some z=>z.1.op.effect | none=>false
def rdAt(zs:List (Vc × Nat))(i:Nat):Bool:=match zs[i]? with | some z=>z.1.op.reads | none=>false
def edgeB(zs:List (Vc × Nat))(i:Nat)(o:Oper)(z:Vc × Nat):Bool:=
 (o.after.toList.all fun e=>!Region.binds .any e||(e.on+1).ble i)&&z.2.beq (ancFold (YN zs) o.after.toList 0)
def pairB(i j:Nat)(z z':Vc × Nat):Bool:=
 (match z'.1.dst with
  | some d'=>i.beq j||((match z.1.dst with | some d=>!(Nat.beq d d') | none=>true)&&(z.2.testBit j||z'.2.testBit i||z.1.uses.all fun t=>!(Nat.beq t d')))
  | none=>true) &&
 (!((i+1).ble j)||!z.1.op.effect||!z'.1.op.effect||z'.2.testBit i)
def drawB(ops:Array Oper)(zs:List (Vc × Nat)):Bool:=
 zs.length.beq ops.size&&(List.range ops.size).all fun i=>match ops[i]?,zs[i]? with
  | some o,some z=>edgeB zs i o z&&(List.range ops.size).all fun j=>match zs[j]? with
    | some z'=>pairB i j z z'
    | none=>false
  | _,_=>false
def anchB(n:Nat)(zs:List (Vc × Nat))(i:Nat):Bool:=(List.range n).all fun j=>i.beq j||!effAt zs j||(YN zs i).testBit j||(YN zs j).testBit i
def noDesc(m:Nat)(zs:List (Vc × Nat))(i:Nat):Bool:=(List.range m).all fun j=>!(effAt zs j&&(YN zs j).testBit i)
def chkOf(n:Nat)(zs:List (Vc × Nat)):List (Nat × Option Nat):=(List.range n).flatMap fun i=>bif rdAt zs i&&!anchB n zs i then
  (List.range n).filterMap (fun k=>bif effAt zs k&&!(YN zs i).testBit k&&noDesc k zs i then some (i,some k) else none)++(bif noDesc n zs i then [(i,none)] else []) else []
def YF(Γ:Cg)(id:Nat)(fr:Fr)(st:St)(m:Rz)(v:AV):Bool:=
 match V5 Γ id fr st m with
 | .val u _=>V8 u v
 | _=>false
def frzX(fr:Fr)(x:X):Bool:=
 match ev fr x with
 | .fptr _ _=>true
 | _=>false
def W0(m:Rz)(fr:Fr):Bool:=
 match m with
 | .load _ _ x=>frzX fr x
 | _=>false
def KE(Γ:Cg)(zs:List (Vc × Nat))(ak:List RF)(id:Nat)(stE:St)(q:Nat × Option Nat):Bool:=
 match zs[q.1]?,ak[q.1]? with
 | some z,some (.val fr _ v _)=>match Vv fr z.1.guard with
  | some true=>match q.2 with
   | none=>W0 z.1.op fr||YF Γ (Wf zs q.1 id) fr stE z.1.op v
   | some k=>match ak[k]? with
    | some (.val _ s _ _)=>W0 z.1.op fr||YF Γ (Wf zs q.1 id) fr s z.1.op v
    | some (.pan _ s _ _)=>W0 z.1.op fr||YF Γ (Wf zs q.1 id) fr s z.1.op v
    | _=>true
  | _=>true
 | _,_=>true
def frCut:List (Vc × Nat)->Fr->Fr
 | [],fr=>fr
 | z::zs,fr=>frCut zs (match z.1.dst with | some d=>fr.set d none | none=>fr)
def VK(Γ:Cg)(zs:List (Vc × Nat))(chk:List (Nat × Option Nat))(fr:Fr)(st:St):RR:=
 match Wq Γ zs 0 st.next fr (VT zs (lens Γ zs fr st) st) none with
 | none=>.stuck
 | some (ak,frE,stE)=>bif chk.all (KE Γ zs ak st.next stE) then
   match JE ak with
   | some (v,af)=>.pan (frCut zs fr) v af
   | none=>.ok frE stE
  else .stuck
def Wh(st:St)(id:Nat):Option LS:=
 match st.get id with
 | some (.loop s)=>some s
 | _=>none
def lsBeq:LS->LS->Bool
 | .ready,.ready=>true
 | .busy,.busy=>true
 | .ret,.ret=>true
 | .exit a,.exit b=>a.beq b
 | .fin,.fin=>true
 | _,_=>false
def esBeq:List (AV × AV)->List (AV × AV)->Bool
 | [],[]=>true
 | p::ps,q::qs=>V8 p.1 q.1&&V8 p.2 q.2&&esBeq ps qs
 | _,_=>false
def aoBeq:AO->AO->Bool
 | .row a,.row b=>VG a b
 | .fro a,.fro b=>VG a b
 | .map a,.map b=>esBeq a b
 | .fmap a,.fmap b=>esBeq a b
 | .loop a,.loop b=>lsBeq a b
 | _,_=>false
def subTr{α:Type}(eq:α->α->Bool):Tr α->Tr α->Bool
 | .nil,_=>true
 | .node o l r,.node o' l' r'=>(match o with
   | none=>true
   | some a=>(match o' with | some b=>eq a b | none=>false))&&subTr eq l l'&&subTr eq r r'
 | .node _ _ _,.nil=>false
structure SubSt(L st:St):Prop where
 next:L.next=st.next
 obj:∀ id o,L.get id=some o->st.get id=some o
 bt:L.bt=.nil
def Jn(L st:St):Bool:=L.next.beq st.next&&subTr aoBeq L.tr st.tr&&(match L.bt with | .nil=>true | _=>false)
def eqTr{α:Type}(eq:α->α->Bool):Tr α->Tr α->Bool
 | .nil,.nil=>true
 | .node o l r,.node o' l' r'=>(match o,o' with
   | none,none=>true
   | some a,some b=>eq a b
   | _,_=>false)&&eqTr eq l l'&&eqTr eq r r'
 | _,_=>false
def eqFr(F G:Fr):Bool:=eqTr V8 F.t G.t&&(match F.ds,G.ds with | [],[]=>true | _,_=>false)
def below{α:Type}:Nat->Tr α->Tr α
 | _,.nil=>.nil
 | k,.node o l r=>.node (bif k.beq 0 then none else o) (below (k.div 2) l) (below ((k.sub 1).div 2) r)
def insAll(x:Nat):List Nat->List (List Nat)
 | []=>[[x]]
 | y::ys=>(x::y::ys)::(insAll x ys).map (y::·)
def permsA:List Nat->List (List Nat)
 | []=>[[]]
 | x::xs=>(permsA xs).flatMap (insAll x)
def VR:AV->Bool
 | .agg _=>false
 | _=>true
def AV.gen:AV->AV
 | .agg cs=>.agg (cs.map fun _=>.top)
 | _=>.top
def Jg:AV->Bool
 | .top=>true
 | _=>false
def genOk(x y:AV):Bool:=
 match y with
 | .top=>VR x
 | .agg ds=>(match x with
  | .agg cs=>cs.length.beq ds.length&&cs.all VR&&ds.all Jg
  | _=>false)
 | _=>false
def wipe(cl:List Nat)(fr:Fr):Fr:=cl.foldl (fun f n=>f.set n (some .undef)) fr
def Wx(cl:List Nat)(f0:Fr):Fr:=cl.foldl (fun f n=>f.set n (some (AV.gen (ev f0 (.t n))))) f0
def okFr(cl:List Nat)(f F:Fr):Bool:=eqFr (wipe cl f) (wipe cl F)&&cl.all fun n=>genOk (ev f (.t n)) (ev F (.t n))
inductive Vn where
 | skip
 | region (ms:List Vc)
 | draw (zs:List (Vc × Nat)) (chk:List (Nat × Option Nat))
 | seq (a b:Vn)
 | cond (c:X) (a b:Vn)
 | block (id:Nat) (c:Vn)
 | loop (c:Vn)
 | exit (id:Nat)
 | ret
 | rfun (x:X) (ps:List Nat) (asg body:Vn)
 | mrange (it nx more out:Nat) (cl:List Nat) (c:Vn)
 | bad
 deriving Inhabited
inductive CR where
 | norm (fr:Fr) (st:St)
 | exit (id:Nat) (fr:Fr) (st:St)
 | ret (fr:Fr) (st:St)
 | pan (fr:Fr) (v:AV) (st:St)
 | stuck
 deriving Inhabited
abbrev Vi:=Nat->List AV->St->FR
def Vi.set(Y:Vi)(id:Nat)(r:List AV->St->FR):Vi:=fun k args st=>bif k.beq id then r args st else Y k args st
structure RC where
 call:Vi->Nat->List AV->St->FR
 ent:Nat->Bool
def RC.cg(Γ:RC)(Y:Vi):Cg:=⟨Γ.call Y,Y⟩
def Vx(body:Fr->St->CR):Nat->Fr->St->CR
 | 0,_,_=>.stuck
 | n+1,fr,st=>match body fr st with
  | .norm fr st=>Vx body n fr st
  | r=>r
def VL:List Nat->List AV->Fr->Fr
 | p::ps,x::xs,fr=>VL ps xs (fr.set p (some x))
 | _,_,fr=>fr
def KI(id:Nat):CR->FR
 | .norm _ st=>match Wh st id with
  | some .busy=>.ret (.bool true) (st.put id (.loop .ready))
  | _=>.stuck
 | .ret _ st=>match Wh st id with
  | some .busy=>.ret (.bool false) (st.put id (.loop .ret))
  | _=>.stuck
 | .exit e _ st=>match Wh st id with
  | some .busy=>.ret (.bool false) (st.put id (.loop (.exit e)))
  | _=>.stuck
 | _=>.stuck
def YZ(asg body:Fr->St->CR)(id:Nat)(fr:Fr)(ps:List Nat)(args:List AV)(st:St):FR:=
 bif args.length.beq ps.length then match Wh st id with
  | some .ready=>match asg (VL ps args { fr with ds:=[] }) st with
   | .norm aJ ai=>match Wh ai id with
    | some .ready=>KI id (body aJ (ai.put id (.loop .busy)))
    | _=>.stuck
   | _=>.stuck
  | _=>.stuck
 else .stuck
def K8(id:Nat)(fr:Fr)(st:St):CR:=
 match Wh st id with
 | some .ready=>.norm fr (st.put id (.loop .fin))
 | some .ret=>.ret fr (st.put id (.loop .fin))
 | some (.exit e)=>.exit e fr (st.put id (.loop .fin))
 | _=>.stuck
def roOk(ro:Option Nat)(st:St):Bool:=
 match ro with
 | none=>true
 | some id=>(Wh st id).isSome
def Ko(ro:Option Nat)(fr:Fr):Fr:=
 match ro with
 | none=>{ fr with ds:=.coll::fr.ds }
 | some _=>fr
def Tp(body:Fr->St->CR)(it nx more id m:Nat)(ks:List Nat)(fr:Fr)(st:St):Option (Fr × St):=
 match body ((fr.set nx (some .top)).set more (some .top)) (st.put id (.iter m ks)) with
 | .norm fr st=>(match fr.get it,st.get id with
  | some (.ptr j 0),some (.iter m' lH)=>bif j.beq id&&m'.beq m&&WQ lH ks then some (fr,st) else none
  | _,_=>none)
 | _=>none
def JB(body:Fr->St->CR)(it nx more id m:Nat):List Nat->List Nat->Fr->St->Option (Fr × St)
 | [],_,fr,st=>some (fr,st)
 | i::is,ks,fr,st=>match Tp body it nx more id m (ks++[i]) fr st with
  | some (fr,st)=>JB body it nx more id m is (ks++[i]) fr st
  | none=>none
def cutSt(n id:Nat)(st:St):St:=⟨st.next,(below n st.tr).set id none,.nil⟩
def OkFr(cl:List Nat)(f F:Fr):Prop:=(∀ n,n∉cl->F.get n=f.get n)/\(∀ n∈cl,genOk (ev f (.t n)) (ev F (.t n))=true)/\F.ds=f.ds
def RangeOk(body:Fr->St->CR)(it nx more id m:Nat)(cl:List Nat)(k:Nat)(fr F:Fr)(st L:St):Prop:=
 ∀ l,l.Perm (List.range k)->∃ f s,JB body it nx more id m l [] fr st=some (f,s)/\OkFr cl f F/\SubSt L s
def rangeB(body:Fr->St->CR)(it nx more id m:Nat)(cl:List Nat)(k:Nat)(fr F:Fr)(st L:St):Bool:=
 ((permsA (List.range k)).all fun l=>match JB body it nx more id m l [] fr st with
  | some (f,s)=>okFr cl f F&&Jn L s
  | none=>false)||@decide (RangeOk body it nx more id m cl k fr F st L) (Classical.propDecidable _)
def Te(body:Fr->St->CR)(it nx more out:Nat)(cl:List Nat)(fr:Fr)(st:St):CR:=
 match fr.get it with
 | some (.ptr id 0)=>match st.get id with
  | some (.iter m [])=>match st.get m with
   | some (.fmap es)=>match JB body it nx more id m (List.range es.length) [] fr st with
    | some (f0,s0)=>
     bif rangeB body it nx more id m cl es.length fr (Wx cl f0) st (cutSt st.next id s0)&&Jg (ev (Wx cl f0) (.t nx))&&Jg (ev (Wx cl f0) (.t more))
     then .exit out (Wx cl f0) (cutSt st.next id s0) else .stuck
    | none=>.stuck
   | _=>.stuck
  | _=>.stuck
 | _=>.stuck
def Vh(Γ:RC)(Y:Vi)(n:Nat):Vn->Option Nat->Fr->St->CR
 | .skip,_,fr,st=>.norm fr st
 | .region ms,_,fr,st=>match Vj (Γ.cg Y) ms fr st with
  | .ok fr st=>.norm fr st
  | .pan fr v st=>.pan fr v st
  | .stuck=>.stuck
 | .draw zs chk,_,fr,st=>match VK (Γ.cg Y) zs chk fr st with
  | .ok fr st=>.norm fr st
  | .pan fr v st=>.pan fr v st
  | .stuck=>.stuck
 | .seq a b,ro,fr,st=>match Vh Γ Y n a ro fr st with
  | .norm fr st=>Vh Γ Y n b ro fr st
  | r=>r
 | .cond c a b,ro,fr,st=>match ev fr c with
  | .bool true=>Vh Γ Y n a ro fr st
  | .bool false=>Vh Γ Y n b ro fr st
  | _=>.stuck
 | .block id c,ro,fr,st=>match Vh Γ Y n c ro fr st with
  | .exit fJ fr st=>bif fJ.beq id then .norm fr st else .exit fJ fr st
  | r=>r
 | .loop c,ro,fr,st=>Vx (Vh Γ Y n c ro) n fr st
 | .exit id,_,fr,st=>.exit id fr st
 | .ret,_,fr,st=>.ret fr st
 | .rfun x ps asg body,ro,fr,st=>match ev fr x with
  | .func (.func g) first captured=>bif Γ.ent g&&roOk ro st then
    match Γ.call (Vi.set Y st.next (YZ (Vh Γ Y n asg (some st.next)) (Vh Γ Y n body (some st.next)) st.next fr ps)) g (first++[.yld st.next]++captured) (st.new (.loop .ready)) with
    | .ret _ st2=>K8 st.next (Ko ro fr) st2
    | .pan v st2=>.pan (Ko ro fr) v st2
    | .stuck=>.stuck
   else .stuck
  | _=>.stuck
 | .mrange it nx more out cl c,ro,fr,st=>Te (Vh Γ Y n c ro) it nx more out cl fr st
 | .bad,_,_,_=>.stuck
def ancsGo:List Oper->List Nat->List Nat
 | [],acc=>acc
 | o::os,acc=>ancsGo os (acc++[ancFold (fun j=>acc.getD j 0) o.after.toList 0])
def allocB(o:Oper)(m:Rz):Bool:=
 match m with
 | .alloc _=>(match o.op with | .alloc _=>true | _=>false)
 | .mksl _ _ _ _ _=>(match o.op with | .makeSlice _ _ _=>true | _=>false)
 | m=>!m.special
def Um:List Oper->List Vc->Bool
 | o::os,m::ms=>allocB o m.op&&Um os ms
 | _,_=>true
def cdraw(P:Program)(ops:Array Oper)(ms:List Vc)(zs:List (Vc × Nat)):Vn:=
 bif P.follows .mixedOrders&&drawB ops zs&&Um ops.toList ms then .draw zs (chkOf ops.size zs) else .bad
def Vn.dsts:Vn->List Nat
 | .region ms=>ms.filterMap (·.dst)
 | .draw zs _=>zs.filterMap (·.1.dst)
 | .seq a b=>a.dsts++b.dsts
 | .cond _ a b=>a.dsts++b.dsts
 | .block _ c=>c.dsts
 | .loop c=>c.dsts
 | .rfun _ ps a b=>ps++a.dsts++b.dsts
 | .mrange _ _ _ _ cl _=>cl
 | _=>[]
def stepOf(N:Nat):List Oper->Option (Nat × Nat × Nat)
 | [o1,o2]=>match o1.op,o1.dst,o1.guard,o2.op,o2.dst,o2.guard with
  | .next (.tmp it) false,some nx,none,.extract (.tmp sV) 0,some more,none=>bif sV.beq nx&&(nx+1).ble N&&(more+1).ble N&&!more.beq it&&!nx.beq it&&!more.beq nx then some (it,nx,more) else none
  | _,_,_,_,_,_=>none
 | _=>none
def mkLoop(N:Nat)(c:Code)(m:Vn):Vn:=
 match c,m with
 | .seq (.region _ ops false) (.seq (.cond (.tmp more') .skip (.exit out)) _),.seq _ (.seq _ mR)=>match stepOf N ops.toList with
  | some (it,nx,more)=>bif more'.beq more then .mrange it nx more out (it::nx::more::mR.dsts) mR else .loop m
  | none=>.loop m
 | _,m=>.loop m
def VA(P:Program)(N:Nat)(pol:Nat->Nat->Bool):Bool->Code->Vn
 | _,.skip=>.skip
 | rd,.region id ops false=>match Yx P ops N rd (pol id) 0 ops.toList with
  | some ms=>.region ms
  | none=>.bad
 | rd,.region id ops true=>match Yx P ops N rd (pol id) 0 ops.toList with
  | some ms=>cdraw P ops ms (ms.zip (ancsGo ops.toList []))
  | none=>.bad
 | rd,.seq a b=>.seq (VA P N pol rd a) (VA P N pol rd b)
 | rd,.cond c a b=>match cx c with
  | some c=>.cond c (VA P N pol rd a) (VA P N pol rd b)
  | none=>.bad
 | rd,.block id c=>.block id (VA P N pol rd c)
 | rd,.loop c=>mkLoop N c (VA P N pol rd c)
 | _,.exit id=>.exit id
 | _,.ret=>.ret
 | _,.rangeFunc g ps asg body=>match cx g with
  | some x=>bif ps.toList.all fun p=>(p+1).ble N then .rfun x ps.toList (VA P N pol true asg) (VA P N pol true body) else .bad
  | none=>.bad
 | _,_=>.bad
inductive JV where
 | t (n:Nat)
 | cell (n:Nat) (agg:Bool) (sz:Nat)
 deriving Inhabited
structure Vm where
 N:Nat
 code:Vn
 res:List JV
 deriving Inhabited
def Vo:Nat->List AV->Fr->Fr
 | _,[],fr=>fr
 | i,x::xs,fr=>Vo (i+1) xs (fr.set i (some x))
def V0(fr:Fr)(st:St):JV->Option AV
 | .t n=>fr.get n
 | .cell n agg sz=>(fr.get n).bind (Vf agg sz st)
def Vu(fr:Fr)(st:St):List JV->Option (List AV)
 | []=>some []
 | r::rs=>(V0 fr st r).bind fun v=>(Vu fr st rs).map (v::·)
def Vg(fr:Fr)(st:St)(rs:List JV):FR:=
 match Vu fr st rs with
 | some [v]=>.ret v st
 | some vs=>.ret (.tuple vs) st
 | none=>.stuck
inductive DM where
 | ret
 | pan (v:AV)
 | recd
 deriving Inhabited
def Rz.isRecov:Rz->Bool
 | .recov=>true
 | _=>false
def arunS:List Vc->Fr->St->DM->Option (Fr × St × DM)
 | [],fr,st,m=>some (fr,st,m)
 | o::os,fr,st,m=>match Vv fr o.guard with
  | some true=>bif o.op.isRecov then
    match m with
    | .pan v=>arunS os (Fr.put fr o.dst v) st .recd
    | m=>arunS os (Fr.put fr o.dst .niface) st m
   else match R8 fr st o.op with
    | .val v af=>arunS os (Fr.put fr o.dst v) af m
    | _=>none
  | some false=>arunS os (Fr.put fr o.dst .undef) st m
  | none=>none
def YI(Γ:RC)(Y:Vi)(n:Nat):Vn->Fr->St->DM->CR × DM
 | .seq a b,fr,st,m=>match YI Γ Y n a fr st m with
  | (.norm fr st,m)=>YI Γ Y n b fr st m
  | r=>r
 | .cond c a b,fr,st,m=>match ev fr c with
  | .bool true=>YI Γ Y n a fr st m
  | .bool false=>YI Γ Y n b fr st m
  | _=>(.stuck,m)
 | .region ms,fr,st,m=>bif ms.any fun o=>o.op.isRecov then
   match arunS ms fr st m with
   | some (fr,st,m)=>(.norm fr st,m)
   | none=>(.stuck,m)
  else (Vh Γ Y n (.region ms) none fr st,m)
 | c,fr,st,m=>(Vh Γ Y n c none fr st,m)
def settleA:DM->DM
 | .recd=>.ret
 | m=>m
def endD(mf:Vm)(fr:Fr)(st:St)(m:DM):Option (DM × St):=
 match fr.ds,Vu fr st mf.res with
 | [],some _=>some (settleA m,st)
 | _,_=>none
def adefF(Γ:RC)(Y:Vi)(n:Nat)(mf:Vm)(args:List AV)(st:St)(m:DM):Option (DM × St):=
 bif args.length.ble mf.N then match YI Γ Y n mf.code (Vo 0 args Fr.nil) st m with
  | (.norm fr st,m)=>endD mf fr st m
  | (.ret fr st,m)=>endD mf fr st m
  | _=>none
 else none
def VO(DF:Nat->List AV->St->DM->Option (DM × St)):List DA->St->DM->Option (DM × St)
 | [],st,m=>some (m,st)
 | .coll::ds,st,m=>VO DF ds st m
 | .call f args::ds,st,m=>match DF f args st m with
  | some (m,st)=>VO DF ds st m
  | none=>none
def WY(DF:Nat->List AV->St->DM->Option (DM × St))(mf:Vm)(fr:Fr)(st:St)(m:DM):FR:=
 match VO DF fr.ds st m with
 | some (.ret,st)=>Vg fr st mf.res
 | some (.pan v,st)=>.pan v st
 | _=>.stuck
def defT(Ry:Nat->Option Vm)(Γ:RC)(Y:Vi)(n:Nat)(f:Nat)(args:List AV)(st:St)(m:DM):Option (DM × St):=
 match Ry f with
 | some mf=>adefF Γ Y n mf args st m
 | none=>none
def Kz(Ry:Nat->Option Vm)(f:Nat):Bool:=
 match Ry f with
 | some _=>true
 | none=>false
def Y0:Vi:=fun _ _ _=>.stuck
def cres(P:Program):ResultVar->Option JV
 | .tmp t=>some (.t t)
 | .cell a t=>(P.underlying t).bind fun d=>(P.info? t).map fun i=>.cell a (Uh d) i.size
def cress(P:Program):List ResultVar->Option (List JV)
 | []=>some []
 | r::rs=>(cres P r).bind fun m=>(cress P rs).map (m::·)
def cfunc(P:Program)(pol:Nat->Nat->Bool)(fn:Func):Option Vm:=
 fn.body.bind fun c=>bif fn.name== "runtime.NumGoroutine" then none else (cress P fn.results.toList).map fun rs=>{ N:=fn.ntmps,code:=VA P fn.ntmps pol false c,res:=rs }
def idxA:List Nat->Nat->Nat->AV
 | [],_,_=>.int .i64 (.negSucc 0)
 | b::l,c,i=>bif b.beq c then .int .i64 (.ofNat i) else idxA l c (i+1)
def cntA:List Nat->Nat->Nat->Nat
 | [],_,n=>n
 | b::l,c,n=>cntA l c (bif b.beq c then n+1 else n)
def extA(k:Nat)(args:List AV):Option AV:=
 match k,args with
 | 0,[.str l,.int .u8 (.ofNat c)]=>bif (c+1).ble 256 then some (idxA l c 0) else none
 | 1,[.str l,.int .u8 (.ofNat c)]=>bif (c+1).ble 256 then some (.int .i64 (.ofNat (cntA l c 0))) else none
 | 2,[x]=>some x
 | _,_=>none
def extR(k:Nat)(args:List AV)(st:St):FR:=
 match extA k args with
 | some v=>.ret v st
 | none=>.stuck
def handX(WS:Nat->Option Nat):RC->Nat->Vi->Nat->List AV->St->FR:=fun _ _ _ f args st=>
 match WS f with
 | some k=>extR k args st
 | none=>.stuck
def polL(l:List (Nat × Nat))(r i:Nat):Bool:=l.any fun p=>p.1.beq r&&p.2.beq i
def polF:List (Nat × List (Nat × Nat))->Nat->List (Nat × Nat)
 | [],_=>[]
 | p::l,n=>bif p.1.beq n then p.2 else polF l n
def tblC(P:Program)(pol:List (Nat × List (Nat × Nat)))(n:Nat):Option Vm:=(P.funcs[n]?).bind (cfunc P (polL (polF pol n)))
def Wi:Vn->Nat->Vn
 | mc,0=>mc
 | .seq _ b,k+1=>Wi b k
 | mc,_+1=>mc
def handF(h:RC->Nat->Vi->Nat->List AV->St->FR)(f0:Nat)(A:List AV)(L:St)(v:AV)(L':St):RC->Nat->Vi->Nat->List AV->St->FR:=fun Γ n Y f args st=>
 bif f.beq f0 then (bif VG args A&&Jn L st then .ret v L' else .stuck) else h Γ n Y f args st
def kif{α:Type}(c:Bool)(t e:α):α:=@Bool.rec (fun _=>α) e t c
def getK{α:Type}(t:Tr α):Nat->Option α:=
 @Tr.rec α (fun _=>Nat->Option α) (fun _=>none)
  (fun o _ _ ihl ihr n=>@Bool.rec (fun _=>Option α) (@Bool.rec (fun _=>Option α) (ihr ((n.div 2).sub 1)) (ihl (n.div 2)) ((n.mod 2).beq 1)) o (n.beq 0)) t
def setK{α:Type}(t:Tr α):Nat->Option α->Tr α:=
 @Tr.rec α (fun _=>Nat->Option α->Tr α) (fun n o=>Tr.setN n .nil n o)
  (fun o l r ihl ihr n v=>@Bool.rec (fun _=>Tr α) (@Bool.rec (fun _=>Tr α) (.node o l (ihr ((n.div 2).sub 1) v)) (.node o (ihl (n.div 2) v) r) ((n.mod 2).beq 1)) (.node v l r) (n.beq 0)) t
def dropK{α:Type}(l:List α):Nat->List α:=@List.rec α (fun _=>Nat->List α) (fun _=>[]) (fun a l ih n=>@Bool.rec (fun _=>List α) (ih (n.sub 1)) (a::l) (n.beq 0)) l
def takeK{α:Type}(l:List α):Nat->List α:=@List.rec α (fun _=>Nat->List α) (fun _=>[]) (fun a _ ih n=>@Bool.rec (fun _=>List α) (a::ih (n.sub 1)) [] (n.beq 0)) l
def lenK{α:Type}(l:List α):Nat->Bool:=@List.rec α (fun _=>Nat->Bool) (fun n=>n.beq 0) (fun _ _ ih n=>@Bool.rec (fun _=>Bool) (ih (n.sub 1)) false (n.beq 0)) l
def nthK{α:Type}(l:List α):Nat->Option α:=@List.rec α (fun _=>Nat->Option α) (fun _=>none) (fun a _ ih n=>@Bool.rec (fun _=>Option α) (ih (n.sub 1)) (some a) (n.beq 0)) l
structure Bx(α:Type) where
 f:α
def bx{α β:Type}(b:Bx α)(k:α->Bx β):Bx β:=@Bx.rec α (fun _=>Bx β) k b
def Ur(f n:Nat):List Bool:=@Nat.rec (fun _=>Nat->List Bool) (fun _=>[]) (fun _ ih n=>@Bool.rec (fun _=>List Bool) (@Bool.rec (fun _=>List Bool) (false::ih (n.div 2).pred) (true::ih (n.div 2)) ((n.mod 2).beq 1)) [] (n.beq 0)) f n
def getB{α:Type}(p:List Bool):Bx (Tr α->Option α):=
 @List.rec Bool (fun _=>Bx (Tr α->Option α)) ⟨fun t=>@Tr.rec α (fun _=>Option α) none (fun o _ _ _ _=>o) t⟩
  (fun b _ ih=>bx ih fun g=>@Bool.rec (fun _=>Bx (Tr α->Option α)) ⟨fun t=>@Tr.rec α (fun _=>Option α) none (fun _ _ r _ _=>g r) t⟩ ⟨fun t=>@Tr.rec α (fun _=>Option α) none (fun _ l _ _ _=>g l) t⟩ b) p
def setB{α:Type}(p:List Bool):Bx (Tr α->Option α->Tr α):=
 @List.rec Bool (fun _=>Bx (Tr α->Option α->Tr α)) ⟨fun t v=>@Tr.rec α (fun _=>Tr α) (.node v .nil .nil) (fun _ l r _ _=>.node v l r) t⟩
  (fun b _ ih=>bx ih fun g=>@Bool.rec (fun _=>Bx (Tr α->Option α->Tr α)) ⟨fun t v=>@Tr.rec α (fun _=>Tr α) (.node none .nil (g .nil v)) (fun o l r _ _=>.node o l (g r v)) t⟩ ⟨fun t v=>@Tr.rec α (fun _=>Tr α) (.node none (g .nil v) .nil) (fun o l r _ _=>.node o (g l v) r) t⟩ b) p
def RQ(x:X):Bx (Fr->AV):=match x with
 | .t n=>bx (getB (Ur n n)) fun g=>⟨fun fr=>@Fr.rec (fun _=>AV) (fun t _=>@Option.rec AV (fun _=>AV) .undef (fun v=>v) (g t)) fr⟩
 | .c v=>⟨fun _=>v⟩
def ofK(st:St)(o:Option AV):R4:=@Option.rec AV (fun _=>R4) .stuck (fun v=>.val v st) o
def ofStK(o:Option St):R4:=@Option.rec St (fun _=>R4) .stuck (fun st=>.val .undef st) o
def getO(st:St)(id:Nat):Option AO:=@St.rec (fun _=>Option AO) (fun _ t _=>getK t id) st
def putO(st:St)(id:Nat)(o:AO):St:=@St.rec (fun _=>St) (fun n t b=>⟨n,setK t id (some o),b⟩) st
def newO(st:St)(o:AO):St:=@St.rec (fun _=>St) (fun n t b=>⟨n.succ,setK t n (some o),b⟩) st
def oneCell:List AV->Option AV:=fun l=>@List.rec AV (fun _=>Option AV) none (fun c l _=>@List.rec AV (fun _=>Option AV) (some c) (fun _ _ _=>none) l) l
def Kw(agg:Bool)(n:Nat)(l:List AV):Option AV:=@Bool.rec (fun _=>Option AV) (oneCell l) (@Bool.rec (fun _=>Option AV) none (some (.agg l)) (lenK l n)) agg
inductive PV where
 | ob (id off:Nat)
 | fz (cs:List AV) (off:Nat)
 | no
def pvK(v:AV):PV:=match v with
 | .ptr id off=>.ob id off
 | .fptr cs off=>.fz cs off
 | _=>.no
def rowK(o:Option AO):Option (List AV):=match o with
 | some (.row cs)=>some cs
 | some (.fro cs)=>some cs
 | _=>none
def rowWK(o:Option AO):Option (List AV):=match o with
 | some (.row cs)=>some cs
 | _=>none
def loadP(agg:Bool)(n:Nat)(st:St)(p:PV):Option AV:=
 @PV.rec (fun _=>Option AV) (fun id off=>@Option.rec (List AV) (fun _=>Option AV) none (fun cs=>Kw agg n (takeK (dropK cs off) n)) (rowK (getO st id))) (fun cs off=>Kw agg n (takeK (dropK cs off) n)) none p
def loadK(agg:Bool)(n:Nat)(st:St)(v:AV):Option AV:=loadP agg n st (pvK v)
def layK(xs:List AV):List AV->List AV:=@List.rec AV (fun _=>List AV->List AV) (fun cs=>cs) (fun x _ ih cs=>x::ih (@List.rec AV (fun _=>List AV) [] (fun _ l _=>l) cs)) xs
def setCK(cs:List AV):Nat->List AV->List AV:=@List.rec AV (fun _=>Nat->List AV->List AV) (fun _ xs=>layK xs [])
 (fun c cs ih n xs=>@Bool.rec (fun _=>List AV) (c::ih (n.sub 1) xs) (layK xs (c::cs)) (n.beq 0)) cs
def storeP(n:Nat)(st:St)(xs:List AV)(p:PV):Option St:=
 @PV.rec (fun _=>Option St) (fun id off=>@Option.rec (List AV) (fun _=>Option St) none (fun cs=>kif (lenK xs n&&(off.add n).ble cs.length&&xs.all AV.one) (some (putO st id (.row (setCK cs off xs)))) none) (rowWK (getO st id))) (fun _ _=>none) none p
def storeK(n:Nat)(st:St)(a x:AV):Option St:=storeP n st x.cells (pvK a)
def lenOpK(c:Nat)(x:AV)(st:St):Option AV:=kif (VD c x) (Wm st x) none
def pickK(c a b:AV)(st:St):R4:=match c with
 | .bool c=>.val (kif c a b) st
 | _=>.stuck
def partsB(l:List (Nat × Nat × X)):Bx (Fr->List (Nat × Nat × AV)):=@List.rec (Nat × Nat × X) (fun _=>Bx (Fr->List (Nat × Nat × AV))) ⟨fun _=>[]⟩ (fun p _ ih=>bx ih fun g=>bx (RQ p.2.2) fun e=>⟨fun fr=>(p.1,p.2.1,e fr)::g fr⟩) l
def stK{α:Type}(st:St)(k:St->α):α:=@St.rec (fun _=>α) (fun n t b=>@Tr.rec Nat (fun _=>α) (k ⟨n,t,.nil⟩) (fun o l r _ _=>k ⟨n,t,.node o l r⟩) b) st
def aopB(m:Rz):Bx (Fr->St->R4):=match m with
 | .mv x=>bx (RQ x) fun ex=>⟨fun fr st=>.val (ex fr) st⟩
 | .pick c a b=>bx (RQ c) fun ec=>bx (RQ a) fun ea=>bx (RQ b) fun eb=>⟨fun fr st=>pickK (ec fr) (ea fr) (eb fr) st⟩
 | .alloc zs=>⟨fun fr st=>.val (.ptr st.next 0) (newO st (.row zs))⟩
 | .box fz x=>bx (RQ x) fun ex=>⟨fun fr st=>@Bool.rec (fun _=>R4) (.val (.ptr st.next 0) (newO st (.row (ex fr).cells))) (.val (.fptr (ex fr).cells 0) st) fz⟩
 | .build zs ps=>bx (partsB ps) fun e=>⟨fun fr st=>R4.of st ((VN zs (e fr)).map .agg)⟩
 | .bslice n zs ps=>bx (partsB ps) fun e=>⟨fun fr st=>R4.of st ((VN zs (e fr)).map fun cs=>.lst n cs true)⟩
 | .load agg n x=>bx (RQ x) fun ex=>⟨fun fr st=>ofK st (loadK agg n st (ex fr))⟩
 | .store n a x=>bx (RQ a) fun ea=>bx (RQ x) fun ex=>⟨fun fr st=>ofStK (storeK n st (ea fr) (ex fr))⟩
 | .nilchk x=>bx (RQ x) fun ex=>⟨fun fr st=>ofK st (Jd (ex fr))⟩
 | .bin b op x y=>bx (RQ x) fun ex=>bx (RQ y) fun ey=>⟨fun fr st=>ofK st (Vr b op (ex fr) (ey fr))⟩
 | .eqnil c pz op x y=>bx (RQ x) fun ex=>bx (RQ y) fun ey=>⟨fun fr st=>R4.of st (match Rg c op (ex fr) (ey fr) with
  | some v=>some v
  | none=>bif pz then eqPtrA c op (ex fr) (ey fr) else none)⟩
 | .un op x=>bx (RQ x) fun ex=>⟨fun fr st=>ofK st (unA op (ex fr))⟩
 | .conv k x=>bx (RQ x) fun ex=>⟨fun fr st=>ofK st (convA k (ex fr))⟩
 | .mkif t x=>bx (RQ x) fun ex=>⟨fun fr st=>.val (.iface t (ex fr)) st⟩
 | .mkfn fn xs ys=>⟨fun fr st=>.val (.func (.func fn) (xs.map (ev fr)) (ys.map (ev fr))) st⟩
 | .slice sz x lo hi mx=>⟨fun fr st=>R4.of st (Ys sz (ev fr x) (lo.map (ev fr)) (hi.map (ev fr)) (mx.map (ev fr)))⟩
 | .faddr off x=>bx (RQ x) fun ex=>⟨fun fr st=>ofK st (WG off (ex fr))⟩
 | .field agg off n x=>bx (RQ x) fun ex=>⟨fun fr st=>ofK st (TN agg off n (ex fr))⟩
 | .iaddr sz x i=>bx (RQ x) fun ex=>bx (RQ i) fun ei=>⟨fun fr st=>ofK st (VC sz (ex fr) (ei fr))⟩
 | .aaddr n sz x i=>bx (RQ x) fun ex=>bx (RQ i) fun ei=>⟨fun fr st=>ofK st (UC n sz (ex fr) (ei fr))⟩
 | .sidx x i=>bx (RQ x) fun ex=>bx (RQ i) fun ei=>⟨fun fr st=>ofK st (sindexA (ex fr) (ei fr))⟩
 | .extract i x=>bx (RQ x) fun ex=>⟨fun fr st=>ofK st (WJ i (ex fr))⟩
 | .len c x=>bx (RQ x) fun ex=>⟨fun fr st=>ofK st (lenOpK c (ex fr) st)⟩
 | .append bytes sz tg x y=>bx (RQ y) fun ey=>bx (RQ x) fun ex=>⟨fun fr st=>stK st fun st=>match Wd sz st (ey fr) with
  | some (n,ys)=>match VX bytes sz st (ex fr) n ys with
   | some (v,af)=>.val v (tagA tg (ex fr) v af)
   | none=>.stuck
  | none=>.stuck⟩
 | m=>⟨fun fr st=>stK st fun st=>R8 fr st m⟩
def argsB(l:List X):Bx (Fr->List AV):=@List.rec X (fun _=>Bx (Fr->List AV)) ⟨fun _=>[]⟩ (fun x _ ih=>bx ih fun g=>bx (RQ x) fun e=>⟨fun fr=>e fr::g fr⟩) l
def oprB(m:Rz):Bx (Cg->Fr->St->R4):=match m with
 | .call f xs=>bx (RQ f) fun e=>bx (argsB xs) fun g=>⟨fun Γ fr st=>YJ Γ (e fr) (g fr) st⟩
 | m=>bx (aopB m) fun g=>⟨fun _ fr st=>g fr st⟩
def putB(d:Option Nat):Bx (Fr->AV->Fr):=match d with
 | none=>⟨fun fr _=>fr⟩
 | some d=>bx (setB (Ur d d)) fun g=>⟨fun fr v=>@Fr.rec (fun _=>Fr) (fun t ds=>⟨g t (some v),ds⟩) fr⟩
def wantB(g:Option (Nat × Bool)):Bx (Fr->Option Bool):=match g with
 | none=>⟨fun _=>some true⟩
 | some (t,want)=>bx (RQ (.t t)) fun e=>⟨fun fr=>match e fr with
  | .bool b=>some (bif want then b else !b)
  | .undef=>some false
  | _=>none⟩
def arunB(ms:List Vc):Bx (Cg->Fr->St->RR):=
 @List.rec Vc (fun _=>Bx (Cg->Fr->St->RR)) ⟨fun _ fr st=>.ok fr st⟩
  (fun m _ ih=>bx ih fun k=>bx (putB m.dst) fun put=>bx (oprB m.op) fun op=>@Option.rec (Nat × Bool) (fun _=>Bx (Cg->Fr->St->RR))
   ⟨fun Γ fr st=>@R4.rec (fun _=>RR) (fun v af=>k Γ (put fr v) af) (fun v af=>.pan fr v af)
     (@Option.rec Fr (fun _=>RR) .stuck (fun aa=>k Γ (put aa .undef) st) (Jr fr m.op)) (op Γ fr st)⟩
   (fun g=>bx (wantB (some g)) fun want=>⟨fun Γ fr st=>@Option.rec Bool (fun _=>RR) .stuck
    (fun b=>@Bool.rec (fun _=>RR) (k Γ (put fr .undef) st)
     (@R4.rec (fun _=>RR) (fun v af=>k Γ (put fr v) af) (fun v af=>.pan fr v af)
      (@Option.rec Fr (fun _=>RR) .stuck (fun aa=>k Γ (put aa .undef) st) (Jr fr m.op)) (op Γ fr st)) b)
    (want fr)⟩) m.guard) ms
def allocD(id:Nat)(st:St)(zs:List AV):R4:=match getO st id with
 | some (.row cs)=>bif VG cs zs then .val (.ptr id 0) st else .stuck
 | _=>.stuck
def oprDB(m:Rz):Bx (Cg->Nat->Fr->St->R4):=match m with
 | .alloc zs=>⟨fun _ id _ st=>allocD id st zs⟩
 | .mksl bytes sz zs l c=>⟨fun _ id fr st=>R4.of st (msliceD bytes sz zs id st (ev fr l) (ev fr c))⟩
 | m=>bx (oprB m) fun g=>⟨fun Γ _ fr st=>g Γ fr st⟩
def nextB(m:Rz):Bx (Nat->Nat):=match m with
 | .alloc _=>⟨Nat.succ⟩
 | .mksl _ _ _ _ _=>⟨Nat.succ⟩
 | _=>⟨fun id=>id⟩
def preB(zs:List (Vc × Nat)):Bx (List Nat->St->St):=@List.rec (Vc × Nat) (fun _=>Bx (List Nat->St->St)) ⟨fun _ st=>st⟩ (fun z _ ih=>match z.1.op with
 | .alloc cs=>bx ih fun k=>⟨fun ns st=>k ns (newO st (.row cs))⟩
 | .mksl _ _ cs _ _=>bx ih fun k=>⟨fun ns st=>k ns.tail (newO st (.row (Yl cs (ns.headD 0))))⟩
 | _=>ih) zs
def drunB(zs:List (Vc × Nat)):Bx (Cg->Nat->Nat->Fr->St->Option Nat->Option DR):=
 @List.rec (Vc × Nat) (fun _=>Bx (Cg->Nat->Nat->Fr->St->Option Nat->Option DR)) ⟨fun _ _ _ fr st _=>some ([],fr,st)⟩
  (fun z _ ih=>bx ih fun k=>bx (nextB z.1.op) fun next=>bx (putB z.1.dst) fun put=>bx (oprDB z.1.op) fun op=>bx (wantB z.1.guard) fun want=>⟨fun Γ i id fr st pan=>@Bool.rec (fun _=>Option DR)
   (@Option.rec Bool (fun _=>Option DR) none
    (fun b=>@Bool.rec (fun _=>Option DR) (DR.cons (.val fr st .undef st) (k Γ i.succ (next id) (put fr .undef) st pan))
     (@R4.rec (fun _=>Option DR) (fun v af=>DR.cons (.val fr st v af) (k Γ i.succ (next id) (put fr v) af pan))
      (fun v af=>@Option.rec Nat (fun _=>Option DR) (DR.cons (.pan fr st v af) (k Γ i.succ (next id) fr st (some i))) (fun _=>none) pan)
      none (op Γ id fr st)) b)
    (want fr))
   (DR.cons .dead (k Γ i.succ (next id) fr st pan)) (Ku pan z.2)⟩) zs
def sameK(Γ:Cg)(id:Nat)(m:Rz)(fr:Fr)(st:St)(v:AV):Bool:=
 @R4.rec (fun _=>Bool) (fun u _=>V8 u v) (fun _ _=>false) false ((oprDB m).f Γ id fr st)
def frzB(m:Rz):Bx (Fr->Bool):=match m with
 | .load _ _ x=>bx (RQ x) fun e=>⟨fun fr=>@PV.rec (fun _=>Bool) (fun _ _=>false) (fun _ _=>true) false (pvK (e fr))⟩
 | _=>⟨fun _=>false⟩
def chkK(Γ:Cg)(zs:List (Vc × Nat))(ak:List RF)(id:Nat)(stE:St)(q:Nat × Option Nat):Bool:=
 match nthK zs q.1,nthK ak q.1 with
 | some z,some (.val fr _ v _)=>match (wantB z.1.guard).f fr with
  | some true=>match q.2 with
   | none=>@Bool.rec (fun _=>Bool) (sameK Γ (Wf zs q.1 id) z.1.op fr stE v) true ((frzB z.1.op).f fr)
   | some k=>match nthK ak k with
    | some (.val _ s _ _)=>@Bool.rec (fun _=>Bool) (sameK Γ (Wf zs q.1 id) z.1.op fr s v) true ((frzB z.1.op).f fr)
    | some (.pan _ s _ _)=>@Bool.rec (fun _=>Bool) (sameK Γ (Wf zs q.1 id) z.1.op fr s v) true ((frzB z.1.op).f fr)
    | _=>true
  | _=>true
 | _,_=>true
def adrawK(Γ:Cg)(zs:List (Vc × Nat))(chk:List (Nat × Option Nat))(fr:Fr)(st:St):RR:=
 match (drunB zs).f Γ 0 st.next fr ((preB zs).f (lens Γ zs fr st) st) none with
 | none=>.stuck
 | some (ak,frE,stE)=>bif chk.all (chkK Γ zs ak st.next stE) then
   match JE ak with
   | some (v,af)=>.pan (frCut zs fr) v af
   | none=>.ok frE stE
  else .stuck
def rrK(r:RR):CR:=@RR.rec (fun _=>CR) (fun fr st=>.norm fr st) (fun fr v st=>.pan fr v st) .stuck r
def aloopK(body:Fr->St->CR)(n:Nat):Fr->St->CR:=
 @Nat.rec (fun _=>Fr->St->CR) (fun _ _=>.stuck)
  (fun _ ih fr st=>@CR.rec (fun _=>CR) (fun fr st=>ih fr st) (fun i fr st=>.exit i fr st) (fun fr st=>.ret fr st) (fun fr v st=>.pan fr v st) .stuck (body fr st)) n
def condK(c:AV)(a b:CR):CR:=match c with
 | .bool true=>a
 | .bool false=>b
 | _=>.stuck
abbrev AcT:=RC->Vi->Nat->Option Nat->Fr->St->CR
def acodeB(mc:Vn):Bx AcT:=
 @Vn.rec (fun _=>Bx AcT)
  ⟨fun _ _ _ _ fr st=>.norm fr st⟩
  (fun ms=>bx (arunB ms) fun g=>⟨fun Γ Y _ _ fr st=>rrK (g (Γ.cg Y) fr st)⟩)
  (fun zs chk=>⟨fun Γ Y _ _ fr st=>rrK (adrawK (Γ.cg Y) zs chk fr st)⟩)
  (fun _ _ iha ihb=>bx iha fun a=>⟨fun Γ Y n ro fr st=>@CR.rec (fun _=>CR) (fun fr st=>ihb.f Γ Y n ro fr st) (fun i fr st=>.exit i fr st) (fun fr st=>.ret fr st) (fun fr v st=>.pan fr v st) .stuck (a Γ Y n ro fr st)⟩)
  (fun c _ _ iha ihb=>bx (RQ c) fun e=>⟨fun Γ Y n ro fr st=>condK (e fr) (iha.f Γ Y n ro fr st) (ihb.f Γ Y n ro fr st)⟩)
  (fun id _ ih=>bx ih fun g=>⟨fun Γ Y n ro fr st=>@CR.rec (fun _=>CR) (fun fr st=>.norm fr st) (fun i fr st=>@Bool.rec (fun _=>CR) (.exit i fr st) (.norm fr st) (i.beq id)) (fun fr st=>.ret fr st) (fun fr v st=>.pan fr v st) .stuck (g Γ Y n ro fr st)⟩)
  (fun _ ih=>bx ih fun g=>⟨fun Γ Y n ro fr st=>aloopK (g Γ Y n ro) n fr st⟩)
  (fun id=>⟨fun _ _ _ _ fr st=>.exit id fr st⟩)
  ⟨fun _ _ _ _ fr st=>.ret fr st⟩
  (fun x ps _ _ iha ihb=>⟨fun Γ Y n ro fr st=>match (RQ x).f fr with
   | .func (.func g) first captured=>bif Γ.ent g&&roOk ro st then
     match Γ.call (Vi.set Y st.next (YZ (iha.f Γ Y n (some st.next)) (ihb.f Γ Y n (some st.next)) st.next fr ps)) g (first++[AV.yld st.next]++captured) (st.new (.loop .ready)) with
     | .ret _ st2=>K8 st.next (Ko ro fr) st2
     | .pan v st2=>.pan (Ko ro fr) v st2
     | .stuck=>.stuck
    else .stuck
   | _=>.stuck⟩)
  (fun it nx more out cl _ ih=>bx ih fun g=>⟨fun Γ Y n ro fr st=>Te (g Γ Y n ro) it nx more out cl fr st⟩)
  ⟨fun _ _ _ _ _ _=>.stuck⟩ mc
def WP(Γ:RC)(Y:Vi)(n:Nat)(mc:Vn)(ro:Option Nat)(fr:Fr)(st:St):CR:=(acodeB mc).f Γ Y n ro fr st
def abodyK(Γ:RC)(Y:Vi)(n:Nat)(DF:Nat->List AV->St->DM->Option (DM × St))(mf:Vm)(args:List AV)(st:St):FR:=
 kif (args.length.ble mf.N) (@CR.rec (fun _=>FR) (fun fr st=>WY DF mf fr st .ret) (fun _ _ _=>.stuck) (fun fr st=>WY DF mf fr st .ret) (fun fr v st=>WY DF mf fr st (.pan v)) .stuck (WP Γ Y n mf.code none (Vo 0 args Fr.nil) st)) .stuck
def arunCK(Ry:Nat->Option Vm)(aF:RC->Nat->Vi->Nat->List AV->St->FR)(n:Nat):Vi->Nat->List AV->St->FR:=
 @Nat.rec (fun _=>Vi->Nat->List AV->St->FR) (fun _ _ _ _=>.stuck)
  (fun n ih Y f args st=>@Option.rec Vm (fun _=>FR) (aF ⟨ih,Kz Ry⟩ n Y f args st) (fun mf=>abodyK ⟨ih,Kz Ry⟩ Y n (defT Ry ⟨ih,Kz Ry⟩ Y n) mf args st) (Ry f)) n
def KD(Ry:Nat->Option Vm)(aF:RC->Nat->Vi->Nat->List AV->St->FR)(n:Nat):RC:=⟨arunCK Ry aF n,Kz Ry⟩
def runSegK(Γ:RC)(n:Nat):Nat->Vn->Fr->St->Option (Vn × Fr × St)
 | 0,mc,fr,st=>some (mc,fr,st)
 | j+1,.seq a b,fr,st=>match WP Γ Y0 n a none fr st with
  | .norm fr st=>runSegK Γ n j b fr st
  | _=>none
 | _+1,_,_,_=>none
def Kn(Γ:RC)(n j:Nat)(mc:Vn)(F:Fr)(L:St)(F':Fr)(L':St):Bool:=
 match runSegK Γ n j mc F L with
 | some (_,fr,st)=>eqFr fr F'&&Jn L' st
 | none=>false
def lastK(Γ:RC)(n:Nat)(mc:Vn)(F:Fr)(L:St)(res:List JV)(v:AV):Bool:=
 match WP Γ Y0 n mc none F L with
 | .norm fr st=>(match fr.ds with | []=>true | _=>false)&&(match Vg fr st res with | .ret u _=>V8 u v | _=>false)
 | .ret fr st=>(match fr.ds with | []=>true | _=>false)&&(match Vg fr st res with | .ret u _=>V8 u v | _=>false)
 | _=>false
def lastRK(Γ:RC)(n:Nat)(mc:Vn)(F:Fr)(L:St)(res:List JV)(v:AV)(L':St):Bool:=
 match WP Γ Y0 n mc none F L with
 | .norm fr st=>(match fr.ds with | []=>true | _=>false)&&(match Vg fr st res with | .ret u af=>V8 u v&&Jn L' af | _=>false)
 | .ret fr st=>(match fr.ds with | []=>true | _=>false)&&(match Vg fr st res with | .ret u af=>V8 u v&&Jn L' af | _=>false)
 | _=>false
def insI(x:Int):List Int->List Int
 | []=>[x]
 | y::ys=>bif decide (x<=y) then x::y::ys else y::insI x ys
def Wn:List Int->List Int
 | []=>[]
 | x::xs=>insI x (Wn xs)
def ascI:List Int->Bool
 | x::y::l=>decide (x < y)&&ascI (y::l)
 | _=>true
def keysI:List (AV × AV)->Option (List Int)
 | []=>some []
 | e::es=>match e.1 with
  | .int .i64 n=>bif in64 n then (keysI es).map (n::·) else none
  | _=>none
def esOf(st:St)(id:Nat):Option (List (AV × AV)):=
 match st.get id with
 | some (.map es)=>some es
 | some (.fmap es)=>some es
 | _=>none
def Ui(K:Nat)(args:List AV)(st:St):FR:=
 match args with
 | [.func (.func g) [] [.ptr cid 0]]=>bif g.beq K then match st.get cid with
  | some (.row [.map id])=>match (esOf st id).bind keysI with
   | some ks=>bif ascI (Wn ks)&&ks.length.ble 1000000 then match Wn ks with
    | []=>.ret .nilsl st
    | l=>.ret (.own st.next 0 l.length 1 none l.length) (st.new (.row (l.map (AV.int .i64))))
    else .stuck
   | none=>.stuck
  | _=>.stuck
  else .stuck
 | _=>.stuck
def insertR(args:List AV)(st:St):FR:=
 match args with
 | [.nilsl,.int .i64 (.ofNat 0),.own v 0 1 1 _ _]=>match st.get v with
  | some (.row [.ptr y d])=>.ret (.own st.next 0 1 1 none 1) (st.new (.row [.ptr y d]))
  | _=>.stuck
 | [.own id 0 1 1 _ _,.int .i64 (.ofNat 0),.own v 0 1 1 _ _]=>match st.get id,st.get v,st.bt.get v with
  | some (.row [.ptr x c]),some (.row [.ptr y d]),some t=>bif t.beq Uf&&!id.beq v then .ret (.own st.next 0 2 1 none 2) ((st.del id).new (.row [.ptr y d,.ptr x c])) else .stuck
  | _,_,_=>.stuck
 | _=>.stuck
def handW(WS:Nat->Option Nat)(S K I:Nat):RC->Nat->Vi->Nat->List AV->St->FR:=fun Γ n Y f args st=>
 bif f.beq S then Ui K args st else bif f.beq I then insertR args st else handX WS Γ n Y f args st
def Jt:List AV->Option (List (Int × Int))
 | []=>some []
 | .int .i64 a::.int .i64 b::l=>(Jt l).map ((a,b)::·)
 | _=>none
def V9(l:List (Int × Int)):List AV:=l.flatMap fun p=>[.int .i64 p.1,.int .i64 p.2]
def insP(x:Int × Int):List (Int × Int)->List (Int × Int)
 | []=>[x]
 | y::ys=>bif decide (x.1<=y.1) then x::y::ys else y::insP x ys
def VY:List (Int × Int)->List (Int × Int)
 | []=>[]
 | x::xs=>insP x (VY xs)
def KJ(C:Nat)(args:List AV)(st:St):FR:=
 match args with
 | [.own id 0 n 2 _ _,.func (.func g) [] []]=>bif g.beq C then match st.get id with
  | some (.row cs)=>match Jt cs with
   | some ps=>bif ps.length.beq n&&ps.length.ble 1000000000&&ascI ((VY ps).map Prod.fst) then .ret (.tuple []) (st.put id (.row (V9 (VY ps)))) else .stuck
   | none=>.stuck
  | _=>.stuck
  else .stuck
 | _=>.stuck
def handV(WS:Nat->Option Nat)(S K I T C:Nat):RC->Nat->Vi->Nat->List AV->St->FR:=fun Γ n Y f args st=>
 bif f.beq T then KJ C args st else handW WS S K I Γ n Y f args st
def Pk(args:List AV)(st:St):FR:=
 match args with
 | [.own id 0 n 9 none lo,.int .i64 (.ofNat k),.own v 0 1 9 (some 1) 0]=>match st.get id,st.get v,st.bt.get v with
  | some (.row cs),some (.row xs),some t=>bif (t.beq Pe&&!id.beq v&&lo.beq n)&&(cs.length.beq (n*9)&&xs.length.beq 9)&&(cs.all AV.one&&xs.all AV.one)&&((k+1).ble n&&n.ble 1000) then
    .ret (.own st.next 0 (n+1) 9 none (n+1)) ((st.del id).new (.row (cs.take (k*9)++(xs++cs.drop (k*9))))) else .stuck
  | _,_,_=>.stuck
 | _=>.stuck
def handY(WS:Nat->Option Nat)(S K I T C J:Nat):RC->Nat->Vi->Nat->List AV->St->FR:=fun Γ n Y f args st=>
 bif f.beq J then Pk args st else handV WS S K I T C Γ n Y f args st
def zi(n:Nat):AV:=.int .i64 (.ofNat n)
def zv(d x:Nat):Vc:=⟨some d,.mv (.t x),none⟩
def zk(d f:Nat)(l:List X):Vc:=⟨some d,.call (.c (.func (.func f) [] [])) l,none⟩
def zs(k a b:Nat):Vc:=⟨none,.store k (.t a) (.t b),none⟩
def zu(d x:Nat):Vc:=⟨some d,.un .not (.t x),none⟩
def zz:AV:=.nilsl
def z0:AV:=.int .i64 (.ofNat 0)
def zt(x:α):Tr α:=.node (some x) .nil .nil
def zm(l r:Tr α):Tr α:=.node none l r
def zw(x:α)(l r:Tr α):Tr α:=.node (some x) l r
def zh(l:Tr α):Tr α:=.node none l .nil
def zj(r:Tr α):Tr α:=.node none .nil r
abbrev ZI(n:Nat):AV:=.int .i64 (.ofNat n)
abbrev Z0:AV:=.int .i64 (.ofNat 0)
abbrev ZC(n:Nat):X:=.c (.int .i64 (.ofNat n))
abbrev ZB(b:Bool):X:=.c (.bool b)
abbrev ZV(d x:Nat):Vc:=⟨some d,.mv (.t x),none⟩
abbrev ZM(d:Nat)(x:X):Vc:=⟨some d,.mv x,none⟩
abbrev ZL(d x:Nat):Vc:=⟨some d,.load false 1 (.t x),none⟩
abbrev ZK(d k x:Nat):Vc:=⟨some d,.load true k (.t x),none⟩
abbrev ZA(d k x:Nat):Vc:=⟨some d,.faddr k (.t x),none⟩
abbrev ZN(d x:Nat):Vc:=⟨some d,.len 0 (.t x),none⟩
abbrev ZP(d k x y:Nat):Vc:=⟨some d,.iaddr k (.t x) (.t y),none⟩
abbrev ZO(d:Nat)(m:Rz):Vc:=⟨some d,m,none⟩
abbrev ZG(d:Nat)(m:Rz)(g:Nat)(b:Bool):Vc:=⟨some d,m,some (g,b)⟩
abbrev ZS(k a b:Nat):Vc:=⟨none,.store k (.t a) (.t b),none⟩
abbrev ZX(d f:Nat)(l:List X):Vc:=⟨some d,.call (.c (.func (.func f) [] [])) l,none⟩
abbrev ZQ(l:List Vc)(c:Vn):Vn:=.seq (.region l) c
abbrev ZR(l:List Vc):Vn:=.seq (.region l) .ret
abbrev Qa:=@Option.some.injEq
abbrev Qb:=@Bool.not_false
abbrev Qc:=@Bool.not_true
abbrev Qg:=@Option.bind_some
abbrev Qd:=@Bool.and_eq_true
abbrev Qe:=@if_neg
abbrev Qo:=@Nat.ble_eq_true_of_le
abbrev Qf:=@Option.map_eq_some_iff
abbrev Qj:=@Nat.eq_of_beq_eq_true
abbrev Qi:=@cond_true
abbrev Ql:=@Option.map_some
abbrev Qh:=@Option.bind_eq_some_iff
abbrev Qk:=@Nat.le_of_ble_eq_true
abbrev Qm:=@if_pos
abbrev Qn:=@List.getElem?_eq_getElem
abbrev Qq:=@cond_false
abbrev Qt:=@List.getElem?_eq_some_iff
abbrev Qr:=@List.mem_of_getElem?
abbrev Qp:=@decide_eq_false
abbrev Qu:=@List.length_map
abbrev Qs:=@decide_eq_true
abbrev Qw:=@Nat.le_refl
abbrev Qy:=@Bool.and_true
abbrev Qv:=@Array.getElem?_eq_some_iff
abbrev Qx:=@List.mem_cons
abbrev Q0:=@List.getElem?_cons_zero
abbrev Q4:=@List.map_cons
abbrev Q7:=@Nat.zero_add
abbrev Q1:=@Bool.false_eq_true
abbrev Q5:=@List.getElem?_map
abbrev Q2:=@Prod.mk.injEq
abbrev Qz:=@Nat.lt_of_lt_of_le
abbrev Q6:=@List.mem_map
abbrev QD:=@Nat.beq_refl
abbrev Q3:=@Bool.true_and
abbrev QC:=@List.length_cons
abbrev QJ:=@List.length_append
abbrev QB:=@List.all_eq_true
abbrev Q9:=@Option.getD_some
abbrev Q8:=@Bool.false_and
abbrev QE:=@List.getElem?_cons_succ
abbrev QQ:=@List.map_append
abbrev QF:=@decide_eq_true_eq
abbrev QA:=@Array.getD_eq_getD_getElem?
abbrev QG:=@List.append_nil
abbrev QH:=@List.take_length
abbrev QI:=@List.not_mem_nil
abbrev QN:=@List.all_cons
abbrev QK:=@Bool.and_false
abbrev Xc:=@List.flatten_cons
abbrev QL:=@Bool.false_or
abbrev QM:=@Array.getElem?_eq_getElem
abbrev Xg:=@List.getElem?_append_right
abbrev QR:=@List.nil_append
abbrev QP:=@List.cons_append
abbrev QV:=@List.mem_append
abbrev Xk:=@List.getElem?_append_left
abbrev QU:=@Bool.true_or
abbrev QO:=@List.mem_flatMap
abbrev Xb:=@List.append_assoc
abbrev QS:=@List.nodup_append
abbrev QW:=@List.all_nil
abbrev QY:=@Nat.le_trans
abbrev QT:=@List.take_add_one
abbrev QZ:=@List.map_nil
abbrev QX:=@List.map_congr_left
abbrev X1:=@Nat.add_assoc
abbrev Xe:=@List.take_zero
abbrev Xa:=@List.flatMap_cons
abbrev Xq:=@List.map_map
abbrev Xl:=@List.length_take
abbrev Xd:=@List.mem_singleton
abbrev Xj:=@if_true
abbrev Xf:=@List.take_succ_cons
abbrev X5:=@Option.getD_none
abbrev Xh:=@or_false
abbrev Xi:=@List.cons.inj
abbrev Xx:=@List.take_of_length_le
abbrev Xm:=@Array.length_toList
abbrev Xn:=@congrArg
abbrev Xo:=@List.mem_range
abbrev Xp:=@List.Perm.refl
abbrev Xr:=@List.drop_length
abbrev Xs:=@Option.ite_none_right_eq_some
abbrev XG:=@List.take_append_of_le_length
abbrev Xy:=@Bool.not_eq_true'
abbrev Xw:=@List.drop_zero
abbrev Xt:=@List.foldl_cons
abbrev Xv:=@Nat.add_mul
abbrev X6:=@List.getElem?_take
abbrev Xu:=@List.getElem_mem
abbrev Xz:=@if_false
abbrev X2:=@List.length_nil
abbrev XO:=@List.drop_eq_getElem_cons
abbrev XV:=@List.getElem?_drop
abbrev X3:=@Nat.zero_le
abbrev XI:=@Array.getElem?_setIfInBounds
abbrev XE:=@List.mem_of_mem_take
abbrev XD:=@List.mem_cons_of_mem
abbrev XH:=@List.drop_succ_cons
abbrev X0:=@List.flatMap_append
abbrev XS:=@Bool.or_true
abbrev Zq:=@List.sum_cons
abbrev X4:=@List.getD_eq_getElem?_getD
abbrev Za:=@List.getElem?_eq_none
abbrev X7:=@Array.getElem?_toList
abbrev X8:=@List.pairwise_cons
abbrev XJ:=@List.find?_eq_none
abbrev X9:=@List.mem_of_find?_eq_some
abbrev XA:=@Nat.add_zero
abbrev XB:=@Bool.or_eq_true
abbrev ZJ:=@Nat.sub_self
abbrev XM:=@Bool.or_eq_false_iff
abbrev XC:=@List.mem_append_left
abbrev XF:=@List.mem_zipIdx
abbrev XU:=@List.length_eq_zero_iff
abbrev Zd:=@List.zipIdx_cons
abbrev XN:=@Array.ext'
abbrev XX:=@List.drop_of_length_le
abbrev XK:=@List.cons.injEq
abbrev Zb:=@List.take_append_drop
abbrev XL:=@Nat.mul_le_mul_right
abbrev XP:=@Nat.mul_one
abbrev XQ:=@List.findIdx?_eq_some_iff_getElem
abbrev XT:=@decide_eq_false_iff_not
abbrev Zm:=@beq_iff_eq
abbrev Zk:=@List.mem_filter
abbrev XW:=@Option.some.inj
abbrev XY:=@List.eq_nil_of_length_eq_zero
abbrev Zn:=@List.ext_getElem?
abbrev XZ:=@Option.mem_toList
abbrev ZH:=@List.find?_append
abbrev Zc:=@List.length_filter_le
abbrev Ze:=@Nat.mod_eq_of_lt
abbrev Zf:=@List.flatMap_def
abbrev Zg:=@Array.getElem?_append_left
abbrev Zh:=@Nat.pred_eq_sub_one
abbrev Zi:=@Array.toList_append
abbrev Zj:=@List.length_flatMap
abbrev Z5:=@Bool.not_eq_false'
abbrev Zl:=@List.mem_cons_self
abbrev Zo:=@List.length_range
abbrev ZE:=@List.any_eq_false
abbrev Zp:=@Array.getElem?_eq_none
abbrev Va:=@List.filter_cons
abbrev Zr:=@Array.getElem?_modify
abbrev Zs:=@List.mem_append_right
abbrev Zt:=@List.singleton_append
abbrev Zu:=@List.length_singleton
abbrev Zv:=@Array.getElem?_setIfInBounds_ne
abbrev Zw:=@Nat.min_eq_left
abbrev Zx:=@Int.natCast_mul
abbrev Zy:=@List.range_eq_range'
abbrev Zz:=@List.nodup_cons
abbrev Z1:=@Bool.or_eq_true_iff
abbrev Z2:=@List.length_pos_iff
abbrev ZW:=@and_true
abbrev Z3:=@decide_true
abbrev Z4:=@Array.foldl_toList
abbrev Z6:=@List.mem_filterMap
abbrev Z7:=@List.append_of_mem
abbrev Z8:=@not_or
abbrev ZD:=@of_decide_eq_true
abbrev ZT:=@Array.toList_map
abbrev ZU:=@List.range'_succ
abbrev ZY:=@List.nodup_range
abbrev ZZ:=@List.drop_append
abbrev zP (st:St):St:=((st.new (.row [.nilmap])).new (.row [Z0,Z0,Z0]))
end
end Go.AM
