/- A part of the proof of FnPictured: an interpreter of the model over plain data, its soundness, and what it makes of the functions that the statement reaches. Conditions: none beyond what the given statement itself says. -/
import Derived.Calls
import Derived.Below
import Derived.Orders
set_option linter.unusedVariables false
set_option linter.unusedSimpArgs false
set_option linter.unnecessarySimpa false
set_option linter.unusedSectionVars false
/- The interpreter V: the Go code of the model, run over typed data. -/
namespace GoV
open Go

/-! ## Data -/
inductive Ty where
 | int (k:IntKind) | bool | sl (t:Ty) | pair (a b:Ty) | unit
 deriving DecidableEq

@[reducible] def Ty.C : Ty → Type
  | .int _ => Int
  | .bool => Bool
  | .sl t => List t.C
  | .pair a b => a.C × b.C
  | .unit => Unit
def Ty.size : Ty → Nat
 | .int _ => 1
 | .bool => 1
 | .sl _ => 1
 | .pair a b => a.size+b.size
 | .unit => 0
def Ty.flat : Ty → Bool
 | .sl _ => false
 | .pair a b => a.flat && b.flat
 | _ => true
def Ty.zero : (T : Ty) → T.C
 | .int _ => (0:Int)
 | .bool => false
 | .sl _ => []
 | .pair a b => (a.zero,b.zero)
 | .unit => ()

inductive Fl where
 | deep | sha | frt | fro
 | jnk (lo hi:Nat)
 deriving DecidableEq
def Fl.el : Fl → Fl
 | .deep => .deep
 | .jnk _ _ => .deep
 | _ => .fro
def Fl.junk (j : Nat) : Fl → Option (Nat × Nat)
 | .deep => some (j,j)
 | .jnk lo hi => some (lo,hi)
 | _ => none

structure Pl where
 r:Nat
 k:Nat
 sub:Option (Nat × Nat)

inductive L where
 | d (o:Fl) (T:Ty) (x:T.C)
 | nil (t:Ty)
 | lent (p:Pl) (rg:Option (Nat × Option Nat))
 | ptr (r o:Nat)
 | eptr (p:Pl) (j o:Nat)
 | fe (T:Ty) (x:T.C) (o:Nat)
 | rp (ls:List L) (o:Nat)
 | fn (f:FuncId) (caps:List L)
 | hole (T:Ty) (x:List T.C) (j i:Nat)
 | dead

inductive Sh where
 | one | agg | tup (ns:List (Option Nat)) | clo (f:FuncId)
def isTup : Sh → Bool
 | .tup _ => true
 | .clo _ => true
 | _ => false
def isArg : Sh → Bool
 | .tup _ => false
 | _ => true
structure Val where
 sh:Sh
 ls:List L
inductive CK where
 | no | val (sh:Sh) | box (fz:Bool)
def CK.isVal : CK → Bool
 | .val _ => true
 | _ => false
def isNo : CK → Bool
 | .no => true
 | _ => false
structure Cell where
 ck:CK
 ls:List L
 pin:Bool
 dl:Bool
 dp:Bool
 ds:Nat
 es:Nat
abbrev St:=List Cell
def Cell.none:Cell:=⟨.no,[],false,false,false,0,0⟩
def bit (b:Bool) (k:Nat):Nat:=if b then 2 ^ k else 0
def esAt (es k:Nat):Nat:=(es >>> (64 * k)) % 18446744073709551616
def esUp (e k:Nat):Nat:=(e % 18446744073709551616) <<< (64 * k)
def allE:Nat:=18446744073709551615
def colE (i:Nat):Nat:=min i 63
def Cell.setL (c:Cell) (k:Nat) (l:L) (d:Bool) (e:Nat):Cell:={ c with ls:=c.ls.set k l,ds:=c.ds ||| bit d k,es:=c.es ||| esUp e k }

def viewL (t k : Nat) : L → L
 | .d .fro T x => .d .fro T x
 | .d _ _ _ => .lent ⟨t,k,none⟩ none
 | .hole _ _ _ _ => .lent ⟨t,k,none⟩ none
 | l => l
def viewLs (t : Nat) : Nat → List L → List L
 | _,[] => []
 | k,l::r => viewL t k l::viewLs t (k+1) r
def sameView : L → L → Bool
 | .d o _ _,.d o' _ _ => !(decide (o=.fro)) && !(decide (o'=.fro))
 | .d o _ _,.hole _ _ _ _ => !(decide (o=.fro))
 | .hole _ _ _ _,.d o _ _ => !(decide (o=.fro))
 | _,_ => false
def okS (s:Bool) (c:Cell) (j:Nat) (l:L):Bool:=decide (j<c.ls.length) && (!s || sameView (c.ls.getD j .dead) l)
/-! ## Programs over slots -/
structure Hd where
 ck:CK
 pin:Bool
 dl:Bool
 dp:Bool
 n:Nat
def Cell.hd (c:Cell):Hd:=⟨c.ck,c.pin,c.dl,c.dp,c.ls.length⟩
inductive M (α : Type) : Type 1 where
 | pure (a:α)
 | fail
 | must (b:Bool) (k:M α)
 | alt (b:Bool) (k1 k2:M α)
 | ext (β:Type) (o:Option β) (k:β→M α)
 | get (i:Nat) (k:Cell→M α)
 | head (i:Nat) (k:Hd→M α)
 | leaf (i j:Nat) (k:L→Bool→Nat→M α)
 | view (i:Nat) (k:List L→M α)
 | set (i:Nat) (c:Cell) (k:M α)
 | setL (i j:Nat) (l:L) (d:Bool) (e:Nat) (s:Bool) (k:M α)
namespace M
def bind {α β : Type} : M α → (α → M β) → M β
 | .pure a,f => f a
 | .fail,_ => .fail
 | .must b k,f => .must b (k.bind f)
 | .alt b k1 k2,f => .alt b (k1.bind f) (k2.bind f)
 | .ext β o k,f => .ext β o fun x => (k x).bind f
 | .get i k,f => .get i fun c => (k c).bind f
 | .head i k,f => .head i fun c => (k c).bind f
 | .leaf i j k,f => .leaf i j fun l d e => (k l d e).bind f
 | .set i c k,f => .set i c (k.bind f)
 | .view i k,f => .view i fun ls => (k ls).bind f
 | .setL i j l d e s k,f => .setL i j l d e s (k.bind f)
instance : Monad M where
 pure:=M.pure
 bind:=M.bind
def exec {α : Type} : M α → St → Option (α × St)
 | .pure a,st => some (a,st)
 | .fail,_ => none
 | .must b k,st => bif b then k.exec st else none
 | .alt b k1 k2,st => bif b then k1.exec st else k2.exec st
 | .ext _ o k, st => match o with
   | some x => (k x).exec st
   | none => none
 | .get i k, st => match st[i]? with
   | some c => (k c).exec st
   | none => none
 | .head i k, st => match st[i]? with
   | some c => (k c.hd).exec st
   | none => none
 | .leaf i j k, st => match st[i]? with
   | some c => match c.ls[j]? with
     | some l => (k l (c.ds.testBit j) (esAt c.es j)).exec st
     | none => none
   | none => none
 | .set i c k,st => if i<st.length then k.exec (st.set i c) else none
 | .view i k, st => match st[i]? with
   | some c => (k (viewLs i 0 c.ls)).exec st
   | none => none
 | .setL i j l d e s k, st => match st[i]? with
   | some c => if okS s c j l=true then k.exec (st.set i (c.setL j l d e)) else none
   | none => none
def viewF (i n:Nat):List (Nat × Nat):=(i,1)::(List.range n).map fun j => (i,3 * j+4)
def foot {α : Type} : M α → St → List (Nat × Nat) × List (Nat × Nat)
 | .pure _,_ => ([],[])
 | .fail,_ => ([],[])
 | .must b k,st => bif b then k.foot st else ([],[])
 | .alt b k1 k2,st => bif b then k1.foot st else k2.foot st
 | .ext _ o k, st => match o with
   | some x => (k x).foot st
   | none => ([],[])
 | .get i k, st => match st[i]? with
   | some c => let q:=(k c).foot st; ((i,0)::q.1,q.2)
   | none => ([],[])
 | .head i k, st => match st[i]? with
   | some c => let q:=(k c.hd).foot st; ((i,1)::q.1,q.2)
   | none => ([],[])
 | .leaf i j k, st => match st[i]? with
   | some c => match c.ls[j]? with
     | some l => let q:=(k l (c.ds.testBit j) (esAt c.es j)).foot st; ((i,3 * j+2)::q.1,q.2)
     | none => ([],[])
   | none => ([],[])
 | .set i c k,st => let q:=k.foot (st.set i c); (q.1,(i,0)::q.2)
 | .view i k, st => match st[i]? with
   | some c => let q:=(k (viewLs i 0 c.ls)).foot st; (viewF i c.ls.length ++ q.1,q.2)
   | none => ([],[])
 | .setL i j l d e s k, st => match st[i]? with
   | some c => let q:=k.foot (st.set i (c.setL j l d e)); (q.1,(i,if s then 3 * j+3 else 3 * j+2)::q.2)
   | none => ([],[])
def read (i:Nat):M Cell:=.get i .pure
def peek (i:Nat):M Hd:=.head i .pure
def leafAt (i j:Nat):M (L × Bool × Nat):=.leaf i j fun l d e => .pure (l,d,e)
def write (i:Nat) (c:Cell):M Unit:=.set i c (.pure ())
def writeL (i j:Nat) (l:L) (d:Bool) (e:Nat):M Unit:=.setL i j l d e false (.pure ())
def writeS (i j:Nat) (l:L) (d:Bool) (e:Nat):M Unit:=.setL i j l d e true (.pure ())
def look (i:Nat):M (List L):=.view i .pure
def opt {α : Type} : Option α → M α
 | some a => .pure a
 | none => .fail
def check (b:Bool):M Unit:=.must b (.pure ())
def nth {α:Type} (z:α) (x:List α) (j:Nat):M α:=.must (decide (j<x.length)) (.pure (x.getD j z))
def runK {α : Type} {γ : Type} : M α → St → (α → St → List (Nat × Nat) × List (Nat × Nat) → Option γ) → Option γ
 | .pure a,st,K => K a st ([],[])
 | .fail,_,_ => none
 | .must b k,st,K => bif b then k.runK st K else none
 | .alt b k1 k2,st,K => bif b then k1.runK st K else k2.runK st K
 | .ext _ o k, st, K => match o with
   | some x => (k x).runK st K
   | none => none
 | .get i k, st, K => match st[i]? with
   | some c => (k c).runK st fun x st' f => K x st' ((i,0)::f.1,f.2)
   | none => none
 | .head i k, st, K => match st[i]? with
   | some c => (k c.hd).runK st fun x st' f => K x st' ((i,1)::f.1,f.2)
   | none => none
 | .leaf i j k, st, K => match st[i]? with
   | some c => match c.ls[j]? with
     | some l => (k l (c.ds.testBit j) (esAt c.es j)).runK st fun x st' f => K x st' ((i,3 * j+2)::f.1,f.2)
     | none => none
   | none => none
 | .set i c k,st,K => if i<st.length then k.runK (st.set i c) fun x st' f => K x st' (f.1,(i,0)::f.2) else none
 | .view i k, st, K => match st[i]? with
   | some c => (k (viewLs i 0 c.ls)).runK st fun x st' f => K x st' (viewF i c.ls.length ++ f.1,f.2)
   | none => none
 | .setL i j l d e s k, st, K => match st[i]? with
   | some c => if okS s c j l=true then k.runK (st.set i (c.setL j l d e)) fun x st' f => K x st' (f.1,(i,if s then 3 * j+3 else 3 * j+2)::f.2) else none
   | none => none
end M
structure CallR where
 β:Type
 o:Option β
 sel:β→Bool
 f:β→Val × List Cell
 g:β→Val × List Cell
def CallR.two (r:CallR) (b:r.β):Val × List Cell:=bif r.sel b then r.f b else r.g b
def CallR.get (r:CallR):Option (Val × List Cell):=r.o.map r.two
def CallR.of (o:Option (Val × List Cell)):CallR:=⟨_,o,fun _ => true,id,id⟩
theorem CallR.of_get (o:Option (Val × List Cell)):(CallR.of o).get=o:=by cases o <;> rfl
abbrev CallT:=FuncId→List Cell→CallR
def M.call (r:CallR):M (Val × List Cell):=.ext r.β r.o fun b => .alt (r.sel b) (.pure (r.f b)) (.pure (r.g b))

/-! ## Leaves and elements -/
def Ty.leaves (o : Fl) : (T : Ty) → T.C → List L
 | .int k,x => [.d .fro (.int k) x]
 | .bool,x => [.d .fro .bool x]
 | .sl t,x => [.d o (.sl t) x]
 | .pair a b,x => a.leaves o x.1 ++ b.leaves o x.2
 | .unit,_ => []
def Ty.take : (T : Ty) → List L → Option (T.C × List L)
 | .int k,.d _ (.int k') x::r => if k'=k then some (x,r) else none
 | .bool,.d _ .bool x::r => some (x,r)
 | .sl t,.d _ (.sl t') x::r => if h:t'=t then some (h ▸ x,r) else none
 | .sl t,.nil t'::r => if t'=t then some ([],r) else none
 | .pair a b, l => match a.take l with
   | some (x, l1) => match b.take l1 with
     | some (y,l2) => some ((x,y),l2)
     | none => none
   | none => none
 | .unit,l => some ((),l)
 | _,_ => none
def Ty.getL (o : Fl) : (T : Ty) → T.C → Nat → Option L
 | .int k,x,0 => some (.d .fro (.int k) x)
 | .bool,x,0 => some (.d .fro .bool x)
 | .sl t,x,0 => some (.d o (.sl t) x)
 | .pair a b,x,i => if i<a.size then a.getL o x.1 i else b.getL o x.2 (i - a.size)
 | _,_,_ => none
def Ty.setL : (T : Ty) → T.C → Nat → L → Option T.C
 | .int k,_,0,.d _ (.int k') x => if k'=k then some x else none
 | .bool,_,0,.d _ .bool x => some x
 | .sl t,_,0,.d _ (.sl t') x => if h:t'=t then some (h ▸ x) else none
 | .sl t,_,0,.nil t' => if t'=t then some [] else none
 | .pair a b, x, i, l => if i < a.size then (match a.setL x.1 i l with | some y => some (y, x.2) | none => none)
  else (match b.setL x.2 (i - a.size) l with | some y => some (x.1,y) | none => none)
 | _,_,_,_ => none
def L.isDeep : L → Bool
 | .d .deep _ _ => true
 | .d _ (.int _) _ => true
 | .d _ .bool _ => true
 | .nil _ => true
 | _ => false
def Fl.owned : Fl → Bool
 | .deep => true
 | .sha => true
 | _ => false
def Fl.le : Fl → Fl → Bool
 | .deep,.jnk _ _ => false
 | .deep,_ => true
 | .jnk _ _,.sha => true
 | .jnk _ _,.frt => true
 | .jnk _ _,.fro => true
 | .sha,.sha => true
 | .sha,.frt => true
 | .sha,.fro => true
 | .frt,.frt => true
 | .frt,.fro => true
 | .fro,.fro => true
 | _,_ => false
def L.co (o : Fl) : L → Option L
 | .d o' (.sl t) x => if o'.le o then some (.d o (.sl t) x) else none
 | .nil t => some (.d o (.sl t) [])
 | .lent _ _ => none
 | .eptr _ _ _ => none
 | l => some l
def cut {α:Type} (rg:Option (Nat × Option Nat)) (l:List α):List α :=
 match rg with
 | none => l
 | some (lo,none) => l.drop lo
 | some (lo,some n) => (l.drop lo).take n

/-! ## Types of the program -/
inductive TK where
 | int (k:IntKind) | bool | slice (e:TypeId) (t:Ty) | struct (fs:List (Nat × Nat × Bool)) | arr (n w:Nat) (ag:Bool) | other
structure TI where
 tk:TK
 n:Nat
 agg:Bool
 T:Option Ty
 zs:List L
inductive Mode where
 | sh | mv (o:Fl) | ap | io (o:Fl) | bx (os:List Fl)
structure Env where
 ti:TypeId→Option TI
 fns:FuncId→Option Func
 md:FuncId→List Mode
 /-- the slots that are kept behind a region -/
 kp:FuncId→Nat→Option (List Nat)
 /-- the slots that are kept at a loop's head (and, told by a million more, ahead of a region), with the flags of their leaves -/
 lh:FuncId→Nat→Option (List (Nat × List Fl))
 /-- the flags of the results' leaves -/
 rt:FuncId→Option (List Fl)
 /-- structs that '==' may look at -/
 eqt:TypeId→Bool
 /-- where what is stored stays with its holder, too -/
 sn:FuncId→Nat→Bool
 /-- regions in which links to what has turned fall away behind each operation -/
 mid:FuncId→Nat→Bool
 /-- functions that tell where an element stands, and do nothing else -/
 adr:FuncId→Option (List Val→M L)
 /-- functions told otherwise -/
 ext:FuncId→Option (List Cell→Option (Val × List Cell))

def viewM (t : Nat) : M Val := do
 let h ← M.peek t
 match h.ck with
 | .no => .fail
 | .val sh => do
   let ls ← M.look t
   pure ⟨sh,ls⟩
 | .box _ => pure ⟨.one,[.ptr t 0]⟩
def constL (E : Env) (ty : TypeId) : Value → Option L
 | .int k n => some (.d .fro (.int k) n)
 | .bool b => some (.d .fro .bool b)
 | .slice none 0 0 => match E.ti ty with
   | some ⟨.slice _ t,_,_,_,_⟩ => some (.nil t)
   | _ => none
 | _ => none
def opnd (E : Env) (ty : TypeId) : Operand → M Val
 | .tmp t => viewM t
 | .const v => do pure ⟨.one,[← M.opt (constL E ty v)]⟩
 | .func f => pure ⟨.one,[.fn f []]⟩
 | .global _ => .fail
def leaf1 (v:Val):M L :=
 match v with
 | ⟨.one,[l]⟩ => pure l
 | _ => .fail
def opnd1 (E:Env) (ty:TypeId) (x:Operand):M L:=do leaf1 (← opnd E ty x)
def asInt (l:L):M Int :=
 match l with
 | .d _ (.int _) x => pure x
 | _ => .fail
def asBool (l:L):M Bool :=
 match l with
 | .d _ .bool x => pure x
 | _ => .fail

/-! ## Places -/
def subOf (l:L) (sub:Option (Nat × Nat)):Option L :=
 match sub,l with
 | none,.d o (.sl t) x => some (.d o (.sl t) x)
 | some (j, i), .d o (.sl T) x => match x[j]? with
   | some e => match T.getL o.el e i with
     | some (.d o' (.sl t') x') => some (.d o' (.sl t') x')
     | _ => none
   | none => none
 | _,_ => none
def rootL (p : Pl) : M L := do
 let h ← M.peek p.r
 M.check !h.dl
 let q ← M.leafAt p.r p.k
 M.check !q.2.1
 M.check (match p.sub with | none => true | some s => !q.2.2.testBit (colE s.2))
 pure q.1
def subM (l:L) (sub:Option (Nat × Nat)):M L :=
 match sub,l with
 | none,.d o (.sl t) x => pure (.d o (.sl t) x)
 | some (j, i), .d o (.sl T) x => do
   let e ← M.nth T.zero x j
   match T.getL o.el e i with
   | some (.d o' (.sl t') x') => pure (.d o' (.sl t') x')
   | _ => .fail
 | _,_ => .fail
def place (p:Pl):M L:=do subM (← rootL p) p.sub
def cutFl (rg:Option (Nat × Option Nat)) (o:Fl):Fl :=
 match o,rg with
 | .frt,some (_,some _) => .fro
 | .jnk lo hi,some (l,_) => .jnk (lo - l) (hi - l)
 | o,_ => o
def cutL (rg : Option (Nat × Option Nat)) : L → L
 | .d o (.sl t) x => .d (cutFl rg o) (.sl t) (cut rg x)
 | l => l
def froL : L → L
 | .d _ T x => .d .fro T x
 | l => l
def snap (p:Pl) (rg:Option (Nat × Option Nat)):M L:=do pure (froL (cutL rg (← place p)))
def steal (p : Pl) (rg : Option (Nat × Option Nat)) : M L := do
 let l ← place p
 match l with
 | .d .fro t x => pure (cutL rg (.d .fro t x))
 | l => match p.sub with
   | some (j, i) => do
     let q ← M.leafAt p.r p.k
     match q.1,l with
     | .d .deep (.sl T) y, .d .deep t x => do
       M.writeS p.r p.k (.hole T y j i) false 0
       pure (cutL rg (.d .deep t x))
     | _,_ => .fail
   | none => do
     M.writeL p.r p.k .dead false 0
     pure (cutL rg l)
def moveL : L → M L
 | .lent p rg => steal p rg
 | .ptr _ _ => .fail
 | .eptr _ _ _ => .fail
 | .dead => .fail
 | l => pure l
def keepL : L → M L
 | .lent p rg => steal p rg
 | l => pure l
def mapL (f : L → M L) : List L → M (List L)
 | [] => pure []
 | l :: r => do
   let x ← f l
   let y ← mapL f r
   pure (x::y)
def freezeAt (p : Pl) : M Unit := do
 let q ← M.leafAt p.r p.k
 match q.1 with
 | .d .fro _ _ => pure ()
 | .d o (.sl t) x =>
   match p.sub with
   | none => M.writeL p.r p.k (.d .fro (.sl t) x) false 0
   | some _ => if o.el=.deep then M.writeL p.r p.k (.d .sha (.sl t) x) false 0 else pure ()
 | _ => .fail
def putD (dst : Nat) (ck : CK) (ls : List L) : M Unit := do
 let old ← M.read dst
 M.check !old.pin
 M.write dst ⟨ck,ls,false,!isNo old.ck || old.dl,!isNo old.ck || old.dp,0,0⟩
def putV (dst:Nat) (v:Val):M Unit:=putD dst (.val v.sh) v.ls

/-! ## Operations -/
def bits (op:BinOp) (k:IntKind) (x y:Int):Int :=
 match op with
 | .and => k.wrap (BitVec.ofInt k.bits x &&& BitVec.ofInt k.bits y).toNat
 | .or => k.wrap (BitVec.ofInt k.bits x ||| BitVec.ofInt k.bits y).toNat
 | .xor => k.wrap (BitVec.ofInt k.bits x ^^^ BitVec.ofInt k.bits y).toNat
 | _ => k.wrap (BitVec.ofInt k.bits x &&& ~~~(BitVec.ofInt k.bits y)).toNat
def binI (op:BinOp) (k:IntKind) (x y:Int):Option L :=
 match op with
 | .add => some (.d .fro (.int k) (k.wrap (x+y)))
 | .sub => some (.d .fro (.int k) (k.wrap (x - y)))
 | .mul => some (.d .fro (.int k) (k.wrap (x * y)))
 | .quo => some (.d .fro (.int k) (k.wrap (x.tdiv y)))
 | .rem => some (.d .fro (.int k) (x.tmod y))
 | .and | .or | .xor | .andNot => some (.d .fro (.int k) (bits op k x y))
 | .eql => some (.d .fro .bool (x == y))
 | .neq => some (.d .fro .bool (x != y))
 | .lss => some (.d .fro .bool (decide (x<y)))
 | .leq => some (.d .fro .bool (decide (x≤y)))
 | .gtr => some (.d .fro .bool (decide (x > y)))
 | .geq => some (.d .fro .bool (decide (x ≥ y)))
 | _ => none
def shiftI (op:BinOp) (k:IntKind) (x y:Int):Option L :=
 match op with
 | .shl => some (.d .fro (.int k) (k.wrap (x * 2 ^ (min y.toNat k.bits))))
 | .shr => some (.d .fro (.int k) (x.fdiv (2 ^ (min y.toNat k.bits))))
 | _ => none
def eqLs : List L → List L → Option Bool
 | [],[] => some true
 | .d _ (.int k) x :: r, .d _ (.int k') y :: s => match eqLs r s with
   | some b => if k=k' then some (decide (x=y) && b) else none
   | none => none
 | .d _ .bool x :: r, .d _ .bool y :: s => match eqLs r s with
   | some b => some (decide (x=y) && b)
   | none => none
 | _,_ => none
def safeI (op:BinOp) (y:Int):Bool :=
 match op with
 | .quo => decide (y≠0)
 | .rem => decide (y≠0)
 | .shl => decide (0≤y)
 | .shr => decide (0≤y)
 | _ => true
def safeB (op:BinOp) (b:Val):Bool :=
 match b with
 | ⟨.one,[.d _ (.int _) y]⟩ => safeI op y
 | _ => true
def binV (eqt tb:Bool) (op:BinOp) (a b:Val):Option L :=
 match a,b with
 | ⟨.one,[.d _ (.int k) x]⟩,⟨.one,[.d _ (.int k') y]⟩ =>
   match op with
   | .shl | .shr => shiftI op k x y
   | _ => if k=k' then binI op k x y else none
 | ⟨.one,[.d _ .bool x]⟩,⟨.one,[.d _ .bool y]⟩ =>
   if tb then match op with
   | .eql => some (.d .fro .bool (x == y))
   | .neq => some (.d .fro .bool (!(x == y)))
   | _ => none
   else none
 | ⟨.agg,ls⟩,⟨.agg,ms⟩ =>
   if eqt then match op,eqLs ls ms with
   | .eql,some b => some (.d .fro .bool b)
   | .neq,some b => some (.d .fro .bool (!b))
   | _,_ => none
   else none
 | _,_ => none
def part (o n:Nat) (ls:List L):Option (List L) :=
 if o+n≤ls.length then some ((ls.drop o).take n) else none
def subViews (p : Pl) (j : Nat) : Nat → List L → List L
 | _,[] => []
 | i,.d .fro T x::r => .d .fro T x::subViews p j (i+1) r
 | i,.d _ _ _::r => .lent ⟨p.r,p.k,some (j,i)⟩ none::subViews p j (i+1) r
 | i,l::r => l::subViews p j (i+1) r
def mkVal (agg:Bool) (ls:List L):Option Val :=
 if agg then some ⟨.agg,ls⟩ else match ls with
 | [l] => some ⟨.one,[l]⟩
 | _ => none
def viewN (r o n:Nat):M (List L):=do M.opt (part o n (← M.look r))
def loadV (ti : TI) (a : L) : M Val := do
 match a with
 | .ptr r o => do
   let h ← M.peek r
   M.check !h.dp
   match h.ck with
   | .box _ => do
     let ls ← viewN r o ti.n
     M.opt (mkVal ti.agg ls)
   | _ => .fail
 | .eptr p j o => do
   let l ← place p
   match l with
   | .d fl (.sl T) x => do
     let e ← M.nth T.zero x j
     let ls ← M.opt (part o ti.n (T.leaves fl.el e))
     let ls':=if fl.el=.deep then subViews p j o ls else ls
     M.check (T.flat || p.sub.isNone || (fl.el != .deep))
     M.opt (mkVal ti.agg ls')
   | _ => .fail
 | .fe T x o => do M.opt (mkVal ti.agg (← M.opt (part o ti.n (T.leaves .fro x))))
 | .rp ls o => do M.opt (mkVal ti.agg (← M.opt (part o ti.n ls)))
 | _ => .fail
def setLs (ls : List L) (o : Nat) : List L → List L
 | [] => ls
 | v::r => setLs (ls.set o v) (o+1) r
def Ty.setLs (T : Ty) (x : T.C) (o : Nat) : List L → Option T.C
 | [] => some x
 | v :: r => match T.setL x o v with
   | some y => T.setLs y (o+1) r
   | none => none
def storeFl (T:Ty) (fl:Fl) (vs:List L):Fl:=if T.flat || vs.all L.isDeep then fl else .sha
def rngE (o : Nat) : Nat → Nat
 | 0 => 0
 | n+1 => 2 ^ colE o ||| rngE (o+1) n
def hasSl : List L → Bool
 | [] => false
 | .d _ (.sl _) _::_ => true
 | .nil _::_ => true
 | _::r => hasSl r
def boxL (soft:Bool) (l:L):M L :=
 match l with
 | .lent ⟨r,k,some q⟩ rg => if soft then snapMove ⟨r,k,some q⟩ rg else (do let _ ← place ⟨r,k,some q⟩; pure (.lent ⟨r,k,some q⟩ rg))
 | .lent ⟨r, k, none⟩ none => do
   let h ← M.peek r
   if h.pin && (h.ck.isVal && !soft) then (do let _ ← place ⟨r,k,none⟩; pure (.lent ⟨r,k,none⟩ none)) else if soft then softL (.lent ⟨r,k,none⟩ none) else moveL (.lent ⟨r,k,none⟩ none)
 | .dead => pure .dead
 | l => if soft then softL l else moveL l
where
 snapMove (p : Pl) (rg : Option (Nat × Option Nat)) : M L := do
  let l ← place p
  match l with
  | .d .frt _ _ => pure (froL (cutL rg l))
  | l => do
    freezeAt p
    pure (froL (cutL rg l))
 softL : L → M L
  | .lent p rg => snapMove p rg
  | l => moveL l
def putN (r : Nat) : Nat → List L → M Unit
 | _,[] => pure ()
 | o, v :: vs => do
   M.writeL r o v true 0
   putN r (o+1) vs
def storePtr (soft : Bool) (ti : TI) (r o : Nat) (ls : List L) : M Unit := do
 let vs ← mapL (boxL soft) ls
 let h ← M.peek r
 M.check !h.dp
 match h.ck with
 | .box false => do
   M.check (decide (o+ti.n≤h.n))
   putN r o vs
 | _ => .fail
def shiftOf (p : Pl) : List L → Option Nat
 | [] => none
 | .lent ⟨r,k,some (j,_)⟩ none::_ => bif Nat.beq r p.r && (Nat.beq k p.k && p.sub.isNone) then some j else none
 | _::ls => shiftOf p ls
def sameLf : L → L → Bool
 | .d _ (.int k) x,.d _ (.int k') y => decide (k=k') && decide (x=y)
 | .d _ .bool x,.d _ .bool y => decide (x=y)
 | _,_ => false
def shiftL (p : Pl) (j' : Nat) (q : Nat) (l : L) : Option L → Bool
 | none => false
 | some (.d _ (.sl _) _) => match l with
   | .lent ⟨r,k,some (j,i)⟩ none => Nat.beq r p.r && (Nat.beq k p.k && (Nat.beq i q && decide (j=j')))
   | _ => false
 | some l' => sameLf l l'
def shiftLs (p : Pl) (j' : Nat) (T : Ty) (e : T.C) : Nat → List L → Bool
 | _,[] => true
 | q,l::ls => shiftL p j' q l (T.getL .deep e q) && shiftLs p j' T e (q+1) ls
def shiftElem (p : Pl) (j j' : Nat) (ls : List L) : M Unit := do
 let l ← rootL ⟨p.r,p.k,none⟩
 let qe ← M.leafAt p.r p.k
 M.check (Nat.beq qe.2.2 0)
 match l with
 | .d fl (.sl T) x => do
   let q ← M.opt (fl.junk j)
   M.check (decide (q.1=j))
   M.check (decide (j<j'))
   M.check (decide (q.2≤j'))
   M.check (Nat.beq ls.length T.size)
   let _ ← M.nth T.zero x j
   let e ← M.nth T.zero x j'
   M.check (shiftLs p j' T e 0 ls)
   M.writeS p.r p.k (.d (.jnk (j+1) (j'+1)) (.sl T) (x.set j e)) false allE
 | _ => .fail
def fillElem (p : Pl) (T : Ty) (y : List T.C) (j' i' j o : Nat) (vs : List L) : M Unit := do
 M.check (decide (j'=j))
 M.check (Nat.beq i' o)
 let e ← M.nth T.zero y j
 match vs with
 | [.d .deep (.sl t) z] => match T.setL e o (.d .deep (.sl t) z) with
   | some e' => M.writeS p.r p.k (.d .deep (.sl T) (y.set j e')) false (2 ^ colE o)
   | none => .fail
 | _ => .fail
def subElem (p : Pl) (T : Ty) (x : List T.C) (j0 i0 j o : Nat) (vs : List L) : M Unit := do
 let e ← M.nth T.zero x j0
 match T.getL .deep e i0 with
 | some (.d .deep (.sl t) y) => do
   M.check t.flat
   M.check (decide (o+vs.length≤t.size))
   let f ← M.nth t.zero y j
   match t.setLs f o vs with
   | some f' => match T.setL e i0 (.d .deep (.sl t) (y.set j f')) with
     | some e' => M.writeS p.r p.k (.d .deep (.sl T) (x.set j0 e')) false 0
     | none => .fail
   | none => .fail
 | _ => .fail
def storeElem (ti : TI) (p : Pl) (j o : Nat) (ls : List L) : M Unit := do
    let vs ← mapL moveL ls
    let l ← rootL p
    match l,p.sub with
    | .d fl (.sl T) x, none => do
      M.check fl.owned
      M.check (decide (o+vs.length≤T.size))
      let e ← M.nth T.zero x j
      match T.setLs e o vs with
      | some e' => M.writeS p.r p.k (.d (storeFl T fl vs) (.sl T) (x.set j e')) false (bif hasSl vs then rngE o vs.length else 0)
      | none => .fail
    | .hole T y j' i',none => fillElem p T y j' i' j o vs
    | .d .deep (.sl T) x,some (j0,i0) => subElem p T x j0 i0 j o vs
    | _,_ => .fail
def storeV (soft : Bool) (ti : TI) (a : L) (v : Val) : M Unit := do
 M.check (!isTup v.sh)
 M.check (v.ls.length == ti.n)
 match a with
 | .ptr r o => storePtr soft ti r o v.ls
 | .eptr p j o => match shiftOf p v.ls with
   | some j' => do
     M.check (Nat.beq o 0)
     shiftElem p j j' v.ls
   | none => storeElem ti p j o v.ls
 | _ => .fail
def most:Nat:=4294967296
def appendL (T : Ty) (b : L) (e : L) : M L := do
 match b,e with
 | .nil t, .nil t' => do
   M.check (decide (t=T))
   M.check (decide (t'=T))
   pure (.nil t)
 | .d fb (.sl t) xs, .nil t' => do
   M.check fb.owned
   M.check (decide (t=T))
   M.check (decide (t'=T))
   pure (.d fb (.sl t) xs)
 | .nil t, .d fe (.sl t') ys => do
   M.check (decide (t=T))
   if h : t' = T then do
    M.check (decide (ys.length≤most))
    pure (.d (if T.flat || fe=.deep then .deep else .sha) (.sl T) (h ▸ ys:List T.C))
   else .fail
 | .d fb (.sl t) xs,.d fe (.sl t') ys =>
   if h : t = T ∧ t' = T then do
    M.check fb.owned
    M.check (decide (xs.length+ys.length≤most))
    pure (.d (if T.flat || fe=.deep then fb else .sha) (.sl T) ((h.1 ▸ xs:List T.C) ++ (h.2 ▸ ys:List T.C)))
   else .fail
 | _,_ => .fail
def elemsL (flat : Bool) : L → M L
 | .lent p rg => if flat then snap p rg else steal p rg
 | l => pure l
def litFl (T:Ty) (es:List (List L)):Fl:=if T.flat || es.all (fun ls => ls.all L.isDeep) then .deep else .sha
def takeAll {T : Ty} : List (List L) → Option (List T.C)
 | [] => some []
 | ls :: r => match T.take ls with
   | some (x, []) => match takeAll (T := T) r with
     | some xs => some (x::xs)
     | none => none
   | _ => none
def fieldOff (ti:TI) (f:Nat):Option (Nat × Nat × Bool) :=
 match ti.tk with
 | .struct offs => offs[f]?
 | _ => none
def alive : L → M Unit
 | .ptr r _ => do
   let h ← M.peek r
   M.check !h.dp
   match h.ck with
   | .box _ => pure ()
   | _ => .fail
 | .eptr p _ _ => do
   let l ← rootL p
   match l with
   | .dead => .fail
   | _ => pure ()
 | .fe _ _ _ => pure ()
 | .rp _ _ => pure ()
 | _ => .fail
def offL (n : Nat) : L → L
 | .ptr r o => .ptr r (o+n)
 | .eptr p j o => .eptr p j (o+n)
 | .fe T x o => .fe T x (o+n)
 | .rp ls o => .rp ls (o+n)
 | l => l
def tyIs (T T':Ty):M Unit:=M.check (decide (T=T'))
def atRg (rg:Option (Nat × Option Nat)) (i:Nat):Nat :=
 match rg with
 | none => i
 | some (lo,_) => lo+i
def indexL (T' : Ty) (a : L) (i : Int) : M L := do
 M.check (decide (0≤i))
 match a with
 | .d .fro (.sl T) x => do
   tyIs T T'
   let e ← M.nth T.zero x i.toNat
   pure (.fe T e 0)
 | .lent p rg => do
   let l ← rootL p
   match l,p.sub with
   | .hole T x _ _, none => do
     tyIs T T'
     M.check (decide (i.toNat<(cut rg x).length))
     pure (.eptr p (atRg rg i.toNat) 0)
   | l, s => do
     let l ← subM l s
     match l with
     | .d _ (.sl T) x => do
       tyIs T T'
       M.check (decide (i.toNat<(cut rg x).length))
       pure (.eptr p (atRg rg i.toNat) 0)
     | _ => .fail
 | _ => .fail
def lenL : L → M Int
 | .d _ (.sl _) x => pure (x.length:Int)
 | .nil _ => pure 0
 | .lent p rg => do
   let l ← place p
   match l with
   | .d _ (.sl _) x => pure ((cut rg x).length:Int)
   | _ => .fail
 | _ => .fail
def sliceTy (T' : Ty) : L → M Unit
 | .d _ (.sl T) _ => tyIs T T'
 | .nil _ => pure ()
 | .lent p _ => do
   let l ← place p
   match l with
   | .d _ (.sl T) _ => tyIs T T'
   | _ => .fail
 | _ => .fail
def sliceL (T' : Ty) (a : L) (lo hi : Option Int) : M L := do
 sliceTy T' a
 let n ← lenL a
 let l:=lo.getD 0
 M.check (decide (0≤l))
 match hi with
 | none => do
   M.check (decide (l≤n))
   match a with
   | .d .fro (.sl T) x => pure (.d .fro (.sl T) (x.drop l.toNat))
   | .nil t => pure (.nil t)
   | .lent p none => pure (.lent p (some (l.toNat,none)))
   | .lent p (some (lo',none)) => pure (.lent p (some (lo'+l.toNat,none)))
   | .lent p (some (lo',some _)) => pure (.lent p (some (lo'+l.toNat,some (n - l).toNat)))
   | _ => .fail
 | some h => do
   M.check (decide (l≤h))
   M.check (decide (h≤n))
   match a with
   | .d .fro (.sl T) x => pure (.d .fro (.sl T) ((x.drop l.toNat).take (h - l).toNat))
   | .nil t => pure (.nil t)
   | .lent p none => pure (.lent p (some (l.toNat,some (h - l).toNat)))
   | .lent p (some (lo',_)) => pure (.lent p (some (lo'+l.toNat,some (h - l).toNat)))
   | _ => .fail
def frzL : L → Option L
 | .d _ T x => some (.d .fro T x)
 | .nil t => some (.nil t)
 | .fn f cs => some (.fn f cs)
 | .rp ls o => some (.rp ls o)
 | .fe T x o => some (.fe T x o)
 | _ => none
def frzLs : List L → Option (List L)
 | [] => some []
 | l :: r => match frzL l, frzLs r with
   | some x,some y => some (x::y)
   | _,_ => none
def capL (l:L):M L :=
 match l with
 | .ptr r 0 => do
   let c ← M.read r
   M.check !c.dp
   match c.ck with
   | .box _ => do
     let ls ← M.opt (frzLs c.ls)
     M.write r ⟨.box true,ls,c.pin,true,c.dp,c.ds,c.es⟩
     pure (.rp ls 0)
   | _ => .fail
 | .rp ls o => pure (.rp ls o)
 | _ => .fail

/-! ## Calls -/
def dstV (dst:Option Nat) (v:Val):M Unit :=
 match dst with
 | some d => putV d v
 | none => pure ()
structure Arg where
 cell:Cell
 bk:List (Nat × Pl × Nat)
 bx:Option (Nat × List Fl)
 ap:Bool
def coLs : List Fl → List L → Option (List L)
 | _,[] => some []
 | [],ls => some ls
 | o :: os, l :: ls => match l.co o, coLs os ls with
   | some x,some y => some (x::y)
   | _,_ => none
def coLsK : List Fl → List L → Option (List L)
 | _,[] => some []
 | [],ls => some ls
 | o :: os, l :: ls => match l with
   | .lent p rg => match coLsK os ls with
     | some y => some (.lent p rg::y)
     | none => none
   | .eptr p j i => match coLsK os ls with
     | some y => some (.eptr p j i::y)
     | none => none
   | l => match l.co o, coLsK os ls with
     | some x,some y => some (x::y)
     | _,_ => none
def L.ref : L → Bool
 | .lent _ _ => true
 | .ptr _ _ => true
 | .eptr _ _ _ => true
 | _ => false
def argL (m:Mode) (k:Nat) (l:L):M (L × List (Nat × Pl × Nat)) :=
 match l with
 | .lent p rg => match m with
   | .sh => pure (.lent p rg,[])
   | .mv o => do
     let x ← steal p rg
     pure (← M.opt (x.co o),[])
   | .ap => do
     let l ← place p
     match l,rg,p.sub with
     | .d .fro T x,_,_ => pure (cutL rg (.d .fro T x),[])
     | .d _ T x, none, none => do
       M.writeL p.r p.k (.d .fro T x) false 0
       pure (.d .frt T x,[(k,p,0)])
     | _,_,_ => .fail
   | .io o => do
     let l0 ← rootL p
     M.check o.owned
     match rg,p.sub with
     | none, none => match l0 with
       | .d o' (.sl t) x => do
         M.check (o'.le o)
         M.writeL p.r p.k .dead false 0
         pure (.d o (.sl t) x,[(k,p,0)])
       | _ => .fail
     | none, some (j, i) => match l0 with
       | .d .deep (.sl T) y => do
         let e ← M.nth T.zero y j
         match T.getL .deep e i with
         | some (.d .deep (.sl t) x) => do
           M.check (decide (o=.deep))
           M.writeL p.r p.k (.hole T y j i) true 0
           pure (.d .deep (.sl t) x,[(k,p,T.size)])
         | _ => .fail
       | _ => .fail
     | _,_ => .fail
   | .bx _ => .fail
 | .nil t => match m with
   | .sh => pure (.d .fro (.sl t) [],[])
   | .mv .fro => pure (.nil t,[])
   | .mv o => pure (.d o (.sl t) [],[])
   | .ap => pure (.d .frt (.sl t) [],[])
   | .io o => pure (.d o (.sl t) [],[])
   | .bx _ => .fail
 | .ptr _ _ => .fail
 | .eptr _ _ _ => .fail
 | .dead => .fail
 | l => pure (l,[])
def argLs (m : Mode) : Nat → List L → M (List L × List (Nat × Pl × Nat))
 | _,[] => pure ([],[])
 | k, l :: r => do
   let x ← argL m k l
   let y ← argLs m (k+1) r
   pure (x.1::y.1,x.2 ++ y.2)
def L.isLink : L → Bool
 | .lent _ _ => true
 | .ptr _ _ => true
 | .eptr _ _ _ => true
 | .dead => true
 | .hole _ _ _ _ => true
 | _ => false
def Mode.pins : Mode → Bool
 | .io _ => true
 | .ap => true
 | _ => false
def Mode.isAp : Mode → Bool
 | .ap => true
 | _ => false
def argBx (os:List Fl) (v:Val):M Arg :=
 match v with
 | ⟨.one, [.ptr r 0]⟩ => do
   let c ← M.read r
   M.check !c.dp
   match c.ck with
   | .box false => do
     M.check (c.ls.all fun l => !l.isLink)
     let ls ← M.opt (coLsK os c.ls)
     M.write r ⟨.box true,[],c.pin,true,c.dp,c.ds,c.es⟩
     pure ⟨⟨.box false,ls,true,false,false,0,0⟩,[],some (r,os),false⟩
   | _ => .fail
 | _ => .fail
def argVal (m : Mode) (v : Val) : M Arg := do
 M.check (isArg v.sh)
 let x ← argLs m 0 v.ls
 pure ⟨⟨.val v.sh,x.1,m.pins,false,false,0,0⟩,x.2,none,m.isAp⟩
def argV (m:Mode) (v:Val):M Arg :=
 match m with
 | .bx os => argBx os v
 | m => argVal m v
def argVs : List Mode → List Val → M (List Arg)
 | _,[] => pure []
 | ms, v :: vs => do
   let x ← argV (ms.headD .sh) v
   let y ← argVs ms.tail vs
   pure (x::y)
def snap1 (l:L):M (L × List Pl) :=
 match l with
 | .lent p rg => do
   let x ← snap p rg
   pure (x,[p])
 | l => pure (l,[])
def snapLs : List L → M (List L × List Pl)
 | [] => pure ([],[])
 | l :: r => do
   let x ← snap1 l
   let y ← snapLs r
   pure (x.1::y.1,x.2 ++ y.2)
def snapAs : List Arg → M (List Cell × List Pl)
 | [] => pure ([],[])
 | a :: r => do
   let x ← snapLs a.cell.ls
   let y ← snapAs r
   pure ({ a.cell with ls:=x.1 }::y.1,x.2 ++ y.2)
def CK.open : CK → Bool
 | .val _ => true
 | .box false => true
 | _ => false
def back1 (ap:Bool) (fin:Cell) (k:Nat) (p:Pl) (sz:Nat):M Unit :=
 match fin.ls[k]? with
 | some (.d o (.sl t) x) => do
   let h ← M.peek p.r
   M.check h.ck.open
   if ap then (match o, p.sub with
    | .frt,none => M.writeL p.r p.k (.d .frt (.sl t) x) true allE
    | _,_ => pure ())
   else match p.sub with
   | none => do
     M.check o.owned
     M.writeL p.r p.k (.d o (.sl t) x) true allE
   | some (j, i) => do
     let q ← M.leafAt p.r p.k
     match o,q.1 with
     | .deep, .hole T y j' i' => do
       M.check (decide (j'=j) && (decide (i'=i) && decide (T.size=sz)))
       let e ← M.nth T.zero y j
       match T.setL e i (.d .deep (.sl t) x) with
       | some e' => M.writeL p.r p.k (.d .deep (.sl T) (y.set j e')) true allE
       | none => .fail
     | _,_ => .fail
 | some .dead => pure ()
 | _ => if ap then pure () else .fail
def backL (ap : Bool) (fin : Cell) : List (Nat × Pl × Nat) → M Unit
 | [] => pure ()
 | q :: r => do
   back1 ap fin q.1 q.2.1 q.2.2
   backL ap fin r
def CK.same : CK → CK → Bool
 | .val .one,.val .one => true
 | .val .agg,.val .agg => true
 | .val (.clo f),.val (.clo g) => Nat.beq f g
 | .box false,.box false => true
 | _,_ => false
def onceK : List (Nat × Pl × Nat) → Bool
 | [] => true
 | q::r => r.all (fun q' => !(q'.1 == q.1)) && onceK r
def backA (a:Arg) (fin:Cell):M Unit :=
 match a.bx with
 | some (r, os) => do
   M.check (fin.pin && fin.ck.same a.cell.ck)
   M.check (fin.ls.all fun l => !l.ref)
   let ls ← M.opt (coLsK os fin.ls)
   let c ← M.read r
   match c.ck with
   | .box true => M.write r ⟨.box false,ls,c.pin,true,c.dp,c.ds,c.es⟩
   | _ => .fail
 | none => if a.bk.isEmpty then pure () else do
   M.check (fin.pin && fin.ck.same a.cell.ck)
   M.check (onceK a.bk)
   backL a.ap fin a.bk
def backs : List Arg → List Cell → M Unit
 | [],_ => pure ()
 | a :: as, fin :: fs => do
   backA a fin
   backs as fs
 | _::_,[] => .fail
def freezes : List Pl → M Unit
 | [] => pure ()
 | p :: r => do
   freezeAt p
   freezes r
def L.quiet : L → Bool
 | .dead => true
 | l => l.isDeep
def apart (as : List Arg) : Bool := as.all fun a => match a.bx with
 | some (r,_) => as.all fun a' => a'.bk.all fun q => decide (q.2.1.r≠r)
 | none => true
def hole1 (q:Nat × Pl × Nat):M Unit :=
 match q.2.1.sub with
 | none => pure ()
 | some _ => do
   let l ← M.leafAt q.2.1.r q.2.1.k
   match l.1 with
   | .hole _ _ _ _ => pure ()
   | _ => .fail
def holesOk : List (Nat × Pl × Nat) → M Unit
 | [] => pure ()
 | q :: r => do
   hole1 q
   holesOk r
def quietC (c:Cell):Bool:=(match c.ck with | .box true => false | _ => true) && c.ls.all L.quiet
def thaw (b:Bool) (ps:List Pl):M Unit:=if b then pure () else freezes ps
def callOp (E : Env) (call : CallT) (dst : Option Nat) (g : FuncId) (caps : List L) (vs : List Val) : M Unit := do
 let as ← argVs (E.md g) vs
 M.check (apart as)
 holesOk (as.flatMap (·.bk))
 let q ← snapAs as
 let cs:=q.1 ++ caps.map fun l => (⟨.val .one,[l],false,false,false,0,0⟩:Cell)
 M.check (cs.all fun c => c.ls.all fun l => !l.ref)
 let p ← M.call (call g cs)
 thaw (p.1.ls.all L.quiet && p.2.all quietC) q.2
 backs as p.2
 dstV dst p.1
def opnds (E : Env) : List Operand → List TypeId → M (List Val)
 | [],_ => pure []
 | x :: xs, t :: ts => do
   let v ← opnd E t x
   let r ← opnds E xs ts
   pure (v::r)
 | x :: xs, [] => do
   let v ← opnd E 0 x
   let r ← opnds E xs []
   pure (v::r)
def adrOp (p : List Val → M L) (dst : Option Nat) (caps : List L) (vs : List Val) : M Unit := do
 M.check caps.isEmpty
 let l ← p vs
 dstV dst ⟨.one,[l]⟩
def callVal (E : Env) (call : CallT) (dst : Option Nat) (c : Call) (x : Operand) : M Unit := do
 let v ← opnd E 0 x
 match v with
 | ⟨.clo g, ls⟩ => do
   let vs ← opnds E c.args.toList c.argTypes.toList
   callOp E call dst g [] (⟨.agg,ls⟩::vs)
 | ⟨.one, [.fn g caps]⟩ => do
   let vs ← opnds E c.args.toList c.argTypes.toList
   match E.adr g with
   | some p => adrOp p dst caps vs
   | none => callOp E call dst g caps vs
 | _ => .fail
def partsLs (E : Env) (ti : TI) : List (Nat × Operand) → List L → M (List L)
 | [],ls => pure ls
 | (f, x) :: r, ls => do
   let o ← M.opt (fieldOff ti f)
   let v ← opnd E 0 x
   M.check (!isTup v.sh)
   M.check (v.ls.length == o.2.1)
   M.check (decide (o.1+v.ls.length≤ls.length))
   partsLs E ti r (setLs ls o.1 v.ls)
def elemParts (E : Env) (e : TypeId) : Nat → List (Nat × Operand) → M (List (List L))
 | _,[] => pure []
 | j, (i, x) :: r => do
   M.check (i == j)
   let v ← opnd E e x
   M.check (!isTup v.sh)
   let ls ← mapL moveL v.ls
   let rest ← elemParts E e (j+1) r
   pure (ls::rest)
def intOpt (E : Env) : Option Operand → M (Option Int)
 | none => pure none
 | some x => do pure (some (← asInt (← opnd1 E 0 x)))
def capLs (E : Env) : List Operand → M (List L)
 | [] => pure []
 | x :: r => do
   let l ← capL (← opnd1 E 0 x)
   let y ← capLs E r
   pure (l::y)
def lenOp (E : Env) (dst : Option Nat) (t : TypeId) (x : Operand) : M Unit := do
 match E.ti t with
 | some ⟨.slice _ _, _, _, _, _⟩ => do
   let l ← opnd1 E t x
   let n ← lenL l
   dstV dst ⟨.one,[.d .fro (.int .i64) n]⟩
 | _ => .fail
def minmaxOp (E : Env) (mn : Bool) (dst : Option Nat) (t : TypeId) (x y : Operand) : M Unit := do
 let la ← opnd1 E t x
 let lb ← opnd1 E t y
 let b ← asInt lb
 match la with
 | .d _ (.int k) a => dstV dst ⟨.one,[.d .fro (.int k) (if mn then (if b<a then b else a) else (if b > a then b else a))]⟩
 | _ => .fail
def wipe {α:Type} (z:α) (rg:Option (Nat × Option Nat)) (x:List α):List α :=
 match rg with
 | none => List.replicate x.length z
 | some (lo,none) => x.take lo ++ List.replicate (x.length - lo) z
 | some (lo,some n) => x.take lo ++ List.replicate n z ++ x.drop (lo+n)
def wipeFl (rg:Option (Nat × Option Nat)) (o:Fl):Option Fl :=
 match o with
 | .jnk _ _ => match rg with
   | some (_,none) => some .deep
   | _ => none
 | o => if o.owned then some o else none
def wipeOk (rg:Option (Nat × Option Nat)) (o:Fl):Bool :=
 match o with
 | .jnk lo _ => match rg with
   | some (l,_) => decide (l≤lo)
   | none => true
 | _ => true
def clearOp (E : Env) (t : TypeId) (x : Operand) : M Unit := do
 match E.ti t with
 | some ⟨.slice _ T, _, _, _, _⟩ => do
   let a ← opnd1 E t x
   match a with
   | .lent p rg => do
     M.check p.sub.isNone
     let l ← place p
     match l with
     | .d o (.sl T') y =>
       if h : T' = T then (do
         let o' ← M.opt (wipeFl rg o)
         M.check (wipeOk rg o)
         M.check (!decide ((cut rg (h ▸ y:List T.C)).length=0))
         M.writeL p.r p.k (.d o' (.sl T) (wipe T.zero rg (h ▸ y:List T.C))) false allE) else .fail
     | _ => .fail
   | _ => .fail
 | _ => .fail
def capOp (E : Env) (dst : Option Nat) (t : TypeId) (x : Operand) : M Unit := do
 match E.ti t with
 | some ⟨.slice _ _, _, _, _, _⟩ => do
   let l ← opnd1 E t x
   match l with
   | .nil _ => dstV dst ⟨.one,[.d .fro (.int .i64) (0:Int)]⟩
   | _ => .fail
 | _ => .fail
def zerosOp (E : Env) (dst : Option Nat) (T : Ty) (t t' : TypeId) (x y : Operand) : M Unit := do
 let a ← opnd1 E t x
 let j ← opnd1 E t' y
 let n ← asInt j
 match a with
 | .nil _ => do
   M.check (decide (1≤n))
   M.check (decide (n≤most))
   dstV dst ⟨.one,[.d .deep (.sl T) (List.replicate n.toNat T.zero)]⟩
 | _ => .fail
def appendOp (E : Env) (dst : Option Nat) (t t' : TypeId) (x y : Operand) : M Unit := do
 match E.ti t,E.ti t' with
 | some ⟨.slice _ T,_,_,_,_⟩,some ⟨.int _,_,_,_,_⟩ => zerosOp E dst T t t' x y
 | some ⟨.slice _ T, _, _, _, _⟩, some ⟨.slice _ _, _, _, _, _⟩ => do
   M.check (decide (t=t'))
   let a ← opnd1 E t x
   let b ← opnd1 E t' y
   let e ← elemsL T.flat b
   let a' ← moveL a
   let r ← appendL T a' e
   dstV dst ⟨.one,[r]⟩
 | _,_ => .fail
def sliceOp (E : Env) (dst : Option Nat) (t : TypeId) (x : Operand) (lo hi : Option Operand) : M Unit := do
 match E.ti t with
 | some ⟨.slice _ T, _, _, _, _⟩ => do
   let a ← opnd1 E t x
   let l ← intOpt E lo
   let h ← intOpt E hi
   let r ← sliceL T a l h
   dstV dst ⟨.one,[r]⟩
 | _ => .fail
def splitN {α : Type} (n : Int) : Nat → Nat → (Nat → M α) → M α
 | 0,_,_ => .fail
 | m+1,k,f => .alt (decide (n=(k:Int))) (f k) (splitN n m (k+1) f)
def indexOp (E : Env) (dst : Option Nat) (t : TypeId) (x i : Operand) : M Unit := do
 match E.ti t with
 | some ⟨.slice _ T, _, _, _, _⟩ => do
   let a ← opnd1 E t x
   let j ← opnd1 E 0 i
   let n ← asInt j
   let r ← indexL T a n
   dstV dst ⟨.one,[r]⟩
 | some ⟨.arr m w _, _, _, _, _⟩ => do
   let a ← opnd1 E t x
   alive a
   let j ← opnd1 E 0 i
   let n ← asInt j
   splitN n m 0 fun c => dstV dst ⟨.one,[offL (c * w) a]⟩
 | _ => .fail
def indexV (E : Env) (dst : Option Nat) (t : TypeId) (x i : Operand) : M Unit := do
 match E.ti t with
 | some ⟨.arr m w ag, _, _, _, _⟩ => do
   let v ← opnd E t x
   match v.sh with
   | .agg => do
     let j ← opnd1 E 0 i
     let n ← asInt j
     splitN n m 0 fun c => do
      let ls ← M.opt (part (c * w) w v.ls)
      dstV dst (← M.opt (mkVal ag ls))
   | _ => .fail
 | _ => .fail
def makeOp (E : Env) (dst : Option Nat) (t : TypeId) (x y : Operand) : M Unit := do
 match E.ti t with
 | some ⟨.slice _ T, _, _, _, _⟩ => do
   let a ← opnd1 E 0 x
   let n ← asInt a
   let b ← opnd1 E 0 y
   let m ← asInt b
   M.check (decide (n=m))
   M.check (decide (0≤n))
   M.check (decide (n * (T.size:Int)≤4398046511104))
   dstV dst ⟨.one,[.d .deep (.sl T) (List.replicate n.toNat T.zero)]⟩
 | _ => .fail
def buildSliceOp (E:Env) (dst:Option Nat) (t:TypeId) (n:Nat) (ps:Array (Nat × Operand)):M Unit :=
 match E.ti t with
 | some ⟨.slice e T, _, _, _, _⟩ => do
   M.check (ps.size == n)
   M.check (decide (n * T.size≤16777216))
   let es ← elemParts E e 0 ps.toList
   let xs ← M.opt (takeAll (T:=T) es)
   dstV dst ⟨.one,[.d (litFl T es) (.sl T) xs]⟩
 | _ => .fail
def isStr (ti:TI):Bool :=
 match ti.tk with
 | .struct _ => true
 | _ => false
def isBoolT (E:Env) (t:TypeId):Bool :=
 match E.ti t with
 | some ⟨.bool,_,_,_,_⟩ => true
 | _ => false
def boxIn (_np q:Nat) (l:L):M L :=
 match l with
 | .lent ⟨r, k, none⟩ none => if r == q then (do
  let h ← M.peek r
  if h.pin then pure l else steal ⟨r,k,none⟩ none) else pure l
 | l => pure l
def boxInLs (np:Nat) (x:Operand) (ls:List L):M (List L) :=
 match x with
 | .tmp q => mapL (boxIn np q) ls
 | _ => pure ls
def flatTs : Ty → List Ty
 | .pair a b => flatTs a ++ flatTs b
 | .unit => []
 | T => [T]
def typLs : List Ty → List L → Bool
 | [],[] => true
 | .int k::ts,.d _ (.int k') _::ls => decide (k=k') && typLs ts ls
 | .bool::ts,.d _ .bool _::ls => typLs ts ls
 | _,_ => false
def eqOK (E:Env) (t:TypeId) (v:Val):Bool :=
 match E.ti t with
 | some ⟨_,_,_,some T,_⟩ => typLs (flatTs T) v.ls
 | _ => false
def funcOp (E:Env) (dst:Option Nat) (f:FuncId) (first caps:Array Operand):M Unit :=
 match first.toList with
 | [] => do
   let cs ← capLs E caps.toList
   dstV dst ⟨.one,[.fn f cs]⟩
 | [x] => do
   M.check caps.isEmpty
   let v ← opnd E 0 x
   match v.sh with
   | .agg => dstV dst ⟨.clo f,v.ls⟩
   | _ => .fail
 | _ => .fail
def vop (E : Env) (call : CallT) (np : Nat) (soft : Bool) (o : Oper) : M Unit := do
 match o.op with
 | .move x => dstV o.dst (← opnd E o.type x)
 | .assign x => do
   let v ← opnd E o.type x
   let ls ← mapL keepL v.ls
   dstV o.dst ⟨v.sh,ls⟩
 | .pick c a b => do
   let x ← asBool (← opnd1 E 0 c)
   let l ← bif x then opnd1 E o.type a else opnd1 E o.type b
   dstV o.dst ⟨.one,[l]⟩
 | .alloc t => do
   let ti ← M.opt (E.ti t)
   match o.dst with
   | some d => putD d (.box false) ti.zs
   | none => pure ()
 | .box t x => do
   let ti ← M.opt (E.ti t)
   let v ← opnd E t x
   M.check (v.ls.length == ti.n)
   M.check (!isTup v.sh)
   let ls ← boxInLs np x v.ls
   match o.dst with
   | some d => putD d (.box false) ls
   | none => pure ()
 | .build t ps => do
   let ti ← M.opt (E.ti t)
   M.check (isStr ti)
   let ls ← partsLs E ti ps.toList ti.zs
   dstV o.dst ⟨.agg,ls⟩
 | .buildSlice t n ps => buildSliceOp E o.dst t n ps
 | .load t a => do
   let ti ← M.opt (E.ti t)
   dstV o.dst (← loadV ti (← opnd1 E 0 a))
 | .store t a x => do
   M.check o.dst.isNone
   let ti ← M.opt (E.ti t)
   let v ← opnd E t x
   storeV soft ti (← opnd1 E 0 a) v
 | .nilCheck x => do
   let l ← opnd1 E 0 x
   alive l
   dstV o.dst ⟨.one,[l]⟩
 | .binOp op t x y yt => do
   let a ← opnd E t x
   let b ← opnd E yt y
   M.check (safeB op b)
   let l ← M.opt (binV (E.eqt t && (eqOK E t a && eqOK E t b)) (isBoolT E t) op a b)
   dstV o.dst ⟨.one,[l]⟩
 | .unOp op _ x => do
   let l ← opnd1 E 0 x
   match op,l with
   | .not,.d _ .bool b => dstV o.dst ⟨.one,[.d .fro .bool (!b)]⟩
   | .neg,.d _ (.int k) n => dstV o.dst ⟨.one,[.d .fro (.int k) (k.wrap (0 - n))]⟩
   | _,_ => .fail
 | .convert s t x => do
   let _ ← M.opt (E.ti s)
   match E.ti t with
   | some ⟨.int k, _, _, _, _⟩ => do
     let n ← asInt (← opnd1 E 0 x)
     dstV o.dst ⟨.one,[.d .fro (.int k) (k.wrap n)]⟩
   | _ => .fail
 | .makeFunc (.func f) first caps => funcOp E o.dst f first caps
 | .makeSlice t l c => makeOp E o.dst t l c
 | .slice t x lo hi mx => do
   M.check mx.isNone
   sliceOp E o.dst t x lo hi
 | .fieldAddr t x f => do
   let ti ← M.opt (E.ti t)
   let n ← M.opt (fieldOff ti f)
   let l ← opnd1 E 0 x
   alive l
   dstV o.dst ⟨.one,[offL n.1 l]⟩
 | .field t x f => do
   let ti ← M.opt (E.ti t)
   let n ← M.opt (fieldOff ti f)
   let v ← opnd E t x
   match v.sh with
   | .agg => do
     let ls ← M.opt (part n.1 n.2.1 v.ls)
     dstV o.dst (← M.opt (mkVal n.2.2 ls))
   | _ => .fail
 | .indexAddr t x i => indexOp E o.dst t x i
 | .index t x i => indexV E o.dst t x i
 | .extract x i => do
   let v ← opnd E 0 x
   match v.sh with
   | .tup ns => match ns[i]? with
     | some q => do
       let off:=((ns.take i).map fun o => o.getD 1).sum
       let ls ← M.opt (part off (q.getD 1) v.ls)
       dstV o.dst ⟨match q with | none => .one | some _ => .agg,ls⟩
     | none => .fail
   | _ => .fail
 | .call c => match c.callee with
   | .builtin .len => match c.args.toList, c.argTypes[0]? with
     | [x],some t => lenOp E o.dst t x
     | _,_ => .fail
   | .builtin .min => match c.args.toList, c.argTypes[0]? with
     | [x,y],some t => minmaxOp E true o.dst t x y
     | _,_ => .fail
   | .builtin .max => match c.args.toList, c.argTypes[0]? with
     | [x,y],some t => minmaxOp E false o.dst t x y
     | _,_ => .fail
   | .builtin .append => match c.args.toList, c.argTypes.toList with
     | [x,y],[t,t'] => appendOp E o.dst t t' x y
     | _,_ => .fail
   | .builtin .clear => match c.args.toList, c.argTypes.toList with
     | [x], [t] => do
       M.check o.dst.isNone
       clearOp E t x
     | _,_ => .fail
   | .builtin .cap => match c.args.toList, c.argTypes[0]? with
     | [x],some t => capOp E o.dst t x
     | _,_ => .fail
   | .value x => callVal E call o.dst c x
   | _ => .fail
 | _ => .fail

/-! ## Statements -/
abbrev R:=Val × List Cell
inductive Ex where
 | normal | exit (id:Nat) | ret
def guardOf (ops:Array Oper) (o:Oper):Option (Option Nat × Bool) :=
 match o.guard with
 | none => none
 | some (j,b) => some ((ops[j]?).bind (·.dst),b)
def boolC (c:Cell):Option (Option Bool) :=
 match c with
 | ⟨.val .one,[.d _ .bool x],_,_,_,_,_⟩ => some (some x)
 | ⟨.no,_,_,true,_,_,_⟩ => some none
 | _ => none
def boolAt (st:St) (s:Nat):Option (Option Bool) :=
 match st[s]? with
 | some c => boolC c
 | none => none
def setBool (st:St) (s:Nat) (b:Bool):St :=
 match st[s]? with
 | some ⟨ck,[.d fl .bool _],p,dl,dp,ds,es⟩ => st.set s ⟨ck,[.d fl .bool b],p,dl,dp,ds,es⟩
 | _ => st
def skipM (dst:Option Nat):M Unit :=
 match dst with
 | none => pure ()
 | some d => do
   let old ← M.read d
   M.check !old.pin
   M.write d ⟨.no,[],false,true,true,0,0⟩
def Cell.fits (c:Cell) (p:Pl):Bool:=!isNo c.ck && !c.dl && !c.ds.testBit p.k && (match p.sub with | Option.none => true | Option.some s => !(esAt c.es p.k).testBit (colE s.2))
def aliveL (st : St) : L → L
 | .lent p rg => match st[p.r]? with
   | some c => if c.fits p then .lent p rg else .dead
   | none => .dead
 | .eptr p j o => match st[p.r]? with
   | some c => if c.fits p then .eptr p j o else .dead
   | none => .dead
 | .ptr r o => match st[r]? with
   | some c => if isNo c.ck || c.dp then .dead else .ptr r o
   | none => .dead
 | l => l
def midR (st:St):St:=st.map fun c => bif isNo c.ck then c else ⟨c.ck,c.ls.map (aliveL st),c.pin,false,false,0,0⟩
def opsE (E : Env) (call : CallT) (np : Nat) (soft mid : Bool) (ops : Array Oper) : List Oper → (St → Option R) → St → Option R
 | [],K,st => K st
 | o::r,K,st =>
   let yes:=fun (st:St) => (vop E call np soft o).runK st fun _ st' _ => opsE E call np soft mid ops r K (bif mid then midR st' else st')
   let no:=fun (st:St) => (skipM o.dst).runK st fun _ st' _ => opsE E call np soft mid ops r K (bif mid then midR st' else st')
   match guardOf ops o with
   | none => yes st
   | some (none,_) => none
   | some (some s, b) => match boolAt st s with
     | none => none
     | some none => no st
     | some (some x) => bif x then (if b then yes else no) (setBool st s true) else (if b then no else yes) (setBool st s false)
def sameLeaf (a b:Nat):Bool:=decide (2≤a) && (decide (2≤b) && (Nat.beq ((a - 2) / 3) ((b - 2) / 3) && !(Nat.beq ((a - 2) % 3+(b - 2) % 3) 3)))
def over (a b:Nat × Nat):Bool:=a.1 == b.1 && (a.2 == b.2 || a.2 == 0 || b.2 == 0 || sameLeaf a.2 b.2)
def clash (a b:List (Nat × Nat) × List (Nat × Nat)):Bool :=
 a.2.any (fun x => b.1.any (over x) || b.2.any (over x)) || b.2.any (fun x => a.1.any (over x))
def pairsOk (bef : Array Nat) : List (Nat × (List (Nat × Nat) × List (Nat × Nat))) → Bool
 | [] => true
 | (i,f)::r => r.all (fun q => !clash f q.2 || (bef.getD q.1 0).testBit i) && pairsOk bef r
def ordOk (ops:Array Oper):Bool:=ops.toList.zipIdx.all fun q => q.1.after.all fun e => !Region.binds .any e || decide (e.on<q.2)
def opsD (E : Env) (call : CallT) (np : Nat) (soft : Bool) (ops : Array Oper) : Nat → List Oper → List (Nat × (List (Nat × Nat) × List (Nat × Nat))) → (St → Option R) → St → Option R
 | _,[],log,K,st => if ordOk ops && pairsOk (Region.before ops) log.reverse then K st else none
 | i,o::r,log,K,st =>
   let yes:=fun (g:List (Nat × Nat)) (st:St) => (vop E call np soft o).runK st fun _ st' f => opsD E call np soft ops (i+1) r ((i,(g ++ f.1,f.2))::log) K st'
   let no:=fun (g:List (Nat × Nat)) (st:St) => (skipM o.dst).runK st fun _ st' f => opsD E call np soft ops (i+1) r ((i,(g ++ f.1,f.2))::log) K st'
   match guardOf ops o with
   | none => yes [] st
   | some (none,_) => none
   | some (some s, b) => match boolAt st s with
     | none => none
     | some none => no [(s,0)] st
     | some (some x) => bif x then (if b then yes else no) [(s,0)] (setBool st s true) else (if b then no else yes) [(s,0)] (setBool st s false)

/-! A statement's end: slots that nobody looks at again fall away; so do links to what may have turned. -/
def dropC (keep : Option (List Nat)) : Nat → St → St
 | _,[] => []
 | i, c :: r => (if c.pin then c else match keep with
  | none => c
  | some l => if l.contains i then c else Cell.none)::dropC keep (i+1) r
def endR (keep:Option (List Nat)) (st:St):St :=
 let st1:=dropC keep 0 st
 st1.map fun c => ⟨c.ck,c.ls.map (aliveL st1),c.pin,false,false,0,0⟩
/-! What links lead to is kept, too. -/
def L.root : L → List Nat
 | .lent p _ => [p.r]
 | .eptr p _ _ => [p.r]
 | .ptr r _ => [r]
 | _ => []
def Cell.roots (c:Cell):List Nat:=c.ls.flatMap L.root
def reach (st : St) : Nat → List Nat → List Nat
 | 0,l => l
 | n + 1, l => match (l.flatMap fun i => match st[i]? with | some c => c.roots | none => []).filter fun i => !l.contains i with
   | [] => l
   | x::r => reach st n (l ++ x::r)
def endC (keep:Option (List Nat)) (st:St):St:=endR (keep.map (reach st 8)) st
def lookK (l:List (Nat × List Fl)) (i:Nat):Option (List Fl) :=
 match l with
 | [] => none
 | (j,f)::r => if j=i then some f else lookK r i
def headC (l : List (Nat × List Fl)) : Nat → St → Option St
 | _,[] => some []
 | i, c :: r => match headC l (i + 1) r with
   | none => none
   | some r' => if c.pin && ((lookK l i).isNone || c.ck.isVal) then some (c :: r') else match lookK l i with
     | none => some (Cell.none::r')
     | some f => match c.ck with
       | .box true => some (c::r')
       | _ => match coLsK f c.ls with
         | some ls => some ({ c with ls:=ls }::r')
         | none => none
def headE (E:Env) (f id:Nat) (st:St):Option St :=
 match E.lh f id with
 | none => some st
 | some l => match headC (l ++ (reach st 8 (l.map (·.1))).map fun i => (i, [])) 0 st with
   | none => none
   | some st1 => some (endR none st1)
def firstRegion : Code → Nat
 | .region id _ _ => id
 | .seq a _ => firstRegion a
 | .block _ b => firstRegion b
 | .cond _ a _ => firstRegion a
 | .loop b => firstRegion b
 | .scope b => firstRegion b
 | _ => 0
def loopN (body : (Ex → St → Option R) → St → Option R) (head : St → Option St) : Nat → (Ex → St → Option R) → St → Option R
 | 0,_,_ => none
 | n + 1, K, st => body (fun e st' => match e with
     | .normal => match head st' with
       | none => none
       | some st2 => loopN body head n K st2
     | e => K e st') st
def condAt (E:Env) (c:Operand) (st:St):Option Bool :=
 match (do asBool (← opnd1 E 0 c):M Bool).exec st with
 | some (b,_) => some b
 | none => none
def vexec (E : Env) (call : CallT) (n : Nat) (f : FuncId) (np : Nat) : Code → (Ex → St → Option R) → St → Option R
 | .skip,K,st => K .normal st
 | .label _,K,st => K .normal st
 | .region id ops draw, K, st => match headE E f (id + 1000000) st with
   | none => none
   | some st0 =>
     let K':=fun (st':St) => K .normal (endC (E.kp f id) st')
     if draw then opsD E call np (E.sn f id) ops 0 ops.toList [] K' st0 else opsE E call np (E.sn f id) (E.mid f id) ops ops.toList K' st0
 | .seq a b, K, st => vexec E call n f np a (fun e st' => match e with
  | .normal => vexec E call n f np b K st'
  | e => K e st') st
 | .cond c a b, K, st => match condAt E c st with
   | none => none
   | some x => bif x then vexec E call n f np a K st else vexec E call n f np b K st
 | .block id b, K, st => vexec E call n f np b (fun e st' => match e with
  | .exit i => if i=id then K .normal st' else K (.exit i) st'
  | e => K e st') st
 | .loop b, K, st => match headE E f (firstRegion b) st with
   | none => none
   | some st1 => loopN (vexec E call n f np b) (headE E f (firstRegion b)) n K st1
 | .exit id,K,st => K (.exit id) st
 | .ret,K,st => K .ret st
 | _,_,_ => none
def stealEl (p : Pl) (rg : Option (Nat × Option Nat)) : M L := do
 let l0 ← rootL p
 match l0,p.sub with
 | .d .deep (.sl T) x, some (j, i) => do
   let e ← M.nth T.zero x j
   match T.getL .deep e i with
   | some (.d .deep (.sl t) y) => do
     M.writeL p.r p.k .dead false 0
     pure (cutL rg (.d .deep (.sl t) y))
   | _ => .fail
 | _,_ => steal p rg
def retL (no : Bool) : L → M L
 | .lent p rg => do
   let h ← M.peek p.r
   if h.pin then (if no then pure .dead else steal p rg) else stealEl p rg
 | .eptr _ _ _ => .fail
 | .ptr _ _ => .fail
 | .dead => .fail
 | l => pure l
def finC (c:Cell):Cell:=if c.pin then ⟨c.ck,c.ls.map (fun l => if l.isLink then .dead else l),true,false,false,0,0⟩ else Cell.none
def resOne (E : Env) (no : Bool) : ResultVar → M Val
 | .tmp t => do
   let c ← M.read t
   match c.ck with
   | .val sh => do
     let ls ← mapL (retL no) (viewLs t 0 c.ls)
     pure ⟨sh,ls⟩
   | _ => .fail
 | .cell a t => do
   let ti ← M.opt (E.ti t)
   let c ← M.read a
   match c.ck with
   | .box _ => do
     let ls ← M.opt (part 0 ti.n (viewLs a 0 c.ls))
     let ls ← mapL (retL no) ls
     M.opt (mkVal ti.agg ls)
   | _ => .fail
def resAll (E : Env) (no : Bool) : List ResultVar → M (List Val)
 | [] => pure []
 | r :: rs => do
   let v ← resOne E no r
   let vs ← resAll E no rs
   pure (v::vs)
def shNo : Sh → Option Nat → Option (Option Nat)
 | .one,_ => some none
 | .agg,n => some n
 | .tup _,_ => none
 | .clo _,_ => none
def tupOf : List Val → Option Val
 | [v] => some v
 | vs => match shs vs with
   | some ns => some ⟨.tup ns,vs.flatMap (·.ls)⟩
   | none => none
where
 shs : List Val → Option (List (Option Nat))
  | [] => some []
  | v :: r => match shNo v.sh (some v.ls.length), shs r with
    | some x,some y => some (x::y)
    | _,_ => none
def lastNo (rs:List ResultVar) (st:St):Bool :=
 match rs.getLast? with
 | some (.tmp t) => match st[t]? with
   | some ⟨_,[.d _ .bool x],_,_,_,_,_⟩ => !x
   | _ => false
 | _ => false
def retK (E : Env) (f : FuncId) (fn : Func) (nargs : Nat) : Ex → St → Option R
 | .exit _,_ => none
 | _, st => (resAll E (lastNo fn.results.toList st) fn.results.toList).runK st fun vs st' _ => match tupOf vs with
  | none => none
  | some v => match (match E.rt f with | none => some v.ls | some fl => coLs fl v.ls) with
    | none => none
    | some ls => if ls.all (fun l => !l.ref) then some (⟨v.sh,ls⟩,(st'.take nargs).map finC) else none
def vcall (E : Env) : Nat → FuncId → List Cell → Option R
 | 0,_,_ => none
 | n + 1, f, cells => match E.ext f with
   | some g => g cells
   | none => match E.fns f with
     | none => none
     | some fn => match fn.body with
       | none => none
       | some c => vexec E (fun g cs => .of (vcall E n g cs)) n f cells.length c (fun e st => if cells.length≤st.length then retK E f fn cells.length e st else none) (cells ++ List.replicate (fn.ntmps - cells.length) Cell.none)
end GoV

/- What the interpreter V's slots say of the machine. -/
namespace GoV
open Go

def cellAt (w:World) (b o:Nat):Option Value:=w.cell? ⟨b,o,none⟩
def cv (w:World) (b o i:Nat):Value:=(cellAt w b (o+i)).getD undef
def Blk (w:World) (b:Nat) (arr:Array Value):Prop:=∃ ty,w.heap[b]?=some (.cells arr ty (0,0))
abbrev FS:=Nat→Nat→Prop
abbrev BS:=Nat→Prop

def RepF (F : FS) (w : World) : (T : Ty) → T.C → (Nat → Value) → Prop
 | .int k,x,cs => cs 0=.int k x
 | .bool,x,cs => cs 0=.bool x
 | .sl t, l, cs => ∃ A c, cs 0 = .slice A l.length c ∧ l.length ≤ c ∧
  (l = [] ∨ ∃ b o, A = some ⟨b, o, none⟩ ∧ ∀ j x, l[j]? = some x →
       (∀ i,i<t.size→F b (o+j * t.size+i)∧∃ u,cellAt w b (o+j * t.size+i)=some u) ∧
       RepF F w t x (cv w b (o+j * t.size)))
 | .pair a b,x,cs => RepF F w a x.1 cs∧RepF F w b x.2 (fun i => cs (a.size+i))
 | .unit,_,_ => True
def RepD (w : World) : (T : Ty) → T.C → (Nat → Value) → BS → Prop
 | .int k,x,cs,_ => cs 0=.int k x
 | .bool,x,cs,_ => cs 0=.bool x
 | .sl t, l, cs, S => ∃ A c, cs 0 = .slice A l.length c ∧ l.length ≤ c ∧
  ((A = none ∧ c = 0) ∨ ∃ b o arr, A = some ⟨b, o, none⟩ ∧ S b ∧ Blk w b arr ∧ o + c * t.size ≤ arr.size ∧
    ∃ Ss : Nat → BS, (∀ j y, Ss j y → S y ∧ y ≠ b) ∧ (∀ j j' y, j ≠ j' → Ss j y → ¬ Ss j' y) ∧
      ∀ j x,l[j]?=some x→RepD w t x (cv w b (o+j * t.size)) (Ss j))
 | .pair a b, x, cs, S => ∃ Sa Sb : BS, (∀ y, Sa y → S y) ∧ (∀ y, Sb y → S y) ∧ (∀ y, Sa y → ¬ Sb y) ∧
  RepD w a x.1 cs Sa∧RepD w b x.2 (fun i => cs (a.size+i)) Sb
 | .unit,_,_,_ => True
def RepS (F:FS) (w:World) (t:Ty) (l:List t.C) (v:Value) (S:BS):Prop :=
 ∃ A c, v = .slice A l.length c ∧ l.length ≤ c ∧
   ((A = none ∧ c = 0) ∨ ∃ b o arr, A = some ⟨b, o, none⟩ ∧ S b ∧ Blk w b arr ∧ o + c * t.size ≤ arr.size ∧
     ∀ j x,l[j]?=some x→RepF F w t x (cv w b (o+j * t.size)))
def RepT (F:FS) (w:World) (t:Ty) (l:List t.C) (v:Value) (S:BS):Prop :=
 RepF F w (.sl t) l (fun _ => v) ∧ ∃ A c, v = .slice A l.length c ∧
    ((A=none∧c=0)∨∃ b o arr,A=some ⟨b,o,none⟩∧S b∧Blk w b arr∧o+c * t.size≤arr.size∧(l.length<c→∀ o',F b o'→o'<o+l.length * t.size))
def RepJ (w:World) (t:Ty) (l:List t.C) (lo hi:Nat) (v:Value) (S:BS):Prop :=
 ∃ A c, v = .slice A l.length c ∧ l.length ≤ c ∧
   ((A = none ∧ c = 0) ∨ ∃ b o arr, A = some ⟨b, o, none⟩ ∧ S b ∧ Blk w b arr ∧ o + c * t.size ≤ arr.size ∧
     ∃ Ss : Nat → BS, (∀ j y, Ss j y → S y ∧ y ≠ b) ∧ (∀ j j' y, j ≠ j' → (j < lo ∨ hi ≤ j) → (j' < lo ∨ hi ≤ j') → Ss j y → ¬ Ss j' y) ∧
       ∀ j x,l[j]?=some x→RepD w t x (cv w b (o+j * t.size)) (Ss j))
def NoF (F:FS) (S:BS):Prop:=∀ b,S b→∀ o,¬ F b o

inductive CRep (F : FS) (w : World) : L → Value → Prop where
 | d (T:Ty) (x:T.C) (v:Value):T.size=1→RepF F w T x (fun _ => v)→CRep F w (.d .fro T x) v
 | nil (t:Ty):CRep F w (.nil t) (.slice none 0 0)
 | fe (T : Ty) (x : T.C) (o b base : Nat) : (∀ i, i < T.size → F b (base + i) ∧ ∃ u, cellAt w b (base + i) = some u) →
  RepF F w T x (cv w b base)→CRep F w (.fe T x o) (.pointer (some ⟨b,base+o,none⟩))
 | rp (ls : List L) (o b : Nat) (us : Nat → Value) : (∀ i l, ls[i]? = some l → F b i) → (∀ i l, ls[i]? = some l → cellAt w b i = some (us i)) →
  (∀ i l,ls[i]?=some l→CRep F w l (us i))→CRep F w (.rp ls o) (.pointer (some ⟨b,o,none⟩))
 | fn (f : FuncId) (caps : List L) (arr : Array Value) : arr.size = caps.length →
  (∀ i l,caps[i]?=some l→CRep F w l (arr.getD i undef))→CRep F w (.fn f caps) (.func (.func f) #[] arr)
def HoleD (w:World) (T:Ty) (x:List T.C) (j i:Nat) (v:Value) (S:BS):Prop :=
 ∃ b off C arr, v = .slice (some ⟨b, off, none⟩) x.length C ∧ x.length ≤ C ∧ S b ∧ Blk w b arr ∧ off + C * T.size ≤ arr.size ∧
   ∀ (w' : World) (X : BS) (t : Ty) (y : List t.C) (e e' : T.C) (arr' : Array Value), (∀ b', S b' → b' ≠ b → w'.heap[b']? = w.heap[b']?) → Blk w' b arr' → arr'.size = arr.size →
     (∀ q,q≠off+j * T.size+i→cellAt w' b q=cellAt w b q)→x[j]?=some e →
     T.setL e i (.d .deep (.sl t) y)=some e'→(∀ b,S b→¬ X b)→RepD w' (.sl t) y (fun _ => cv w' b (off+j * T.size) i) X→RepD w' (.sl T) (x.set j e') (fun _ => v) (fun b => S b∨X b)
def LRep (F:FS) (w:World) (l:L) (v:Value) (S:BS):Prop :=
 match l with
 | .d .deep (.sl t) x => RepD w (.sl t) x (fun _ => v) S∧NoF F S
 | .d .sha (.sl t) x => RepS F w t x v S∧NoF F S
 | .d .frt (.sl t) x => RepT F w t x v S
 | .d (.jnk lo hi) (.sl t) x => RepJ w t x lo hi v S∧NoF F S
 | .d .fro T x => CRep F w (.d .fro T x) v
 | .d _ _ _ => False
 | .lent _ _ => True
 | .ptr _ _ => True
 | .eptr _ _ _ => True
 | .hole T x j i => HoleD w T x j i v S∧NoF F S
 | .dead => True
 | l => CRep F w l v

/-! ## Stability -/
structure Same (F : FS) (S : BS) (w w' : World) : Prop where
 f:∀ b o u,F b o→cellAt w b o=some u→cellAt w' b o=some u
 s:∀ b,S b→w'.heap[b]?=w.heap[b]?
structure Grow (F F' : FS) (S : BS) : Prop where
 up:∀ b o,F b o→F' b o
 no:∀ b o,S b→F' b o→F b o
theorem Same.blk {F:FS} {S:BS} {w w':World} (h:Same F S w w') {b:Nat} (hb:S b) {arr:Array Value} (hk:Blk w b arr):Blk w' b arr:=by
 obtain ⟨ty,hk⟩:=hk
 exact ⟨ty,(h.s b hb).trans hk⟩
theorem cellAt_of_heap {w w':World} {b:Nat} (h:w'.heap[b]?=w.heap[b]?) (o:Nat):cellAt w' b o=cellAt w b o :=
 World.cell?_of_block (w:=w) (a:=⟨b,o,none⟩) h
theorem cv_of_heap {w w':World} {b:Nat} (h:w'.heap[b]?=w.heap[b]?) (o:Nat):cv w' b o=cv w b o:=by
 funext i
 simp only [cv,cellAt_of_heap h]
theorem RepF.congr {F:FS} {w:World}:∀ {T:Ty} {x:T.C} {cs cs':Nat→Value},(∀ i,i<T.size→cs' i=cs i)→RepF F w T x cs→RepF F w T x cs':=by
 intro T
 induction T with
 | int k => intro x cs cs' h hr; simp only [RepF] at *; rw [h 0 (by simp [Ty.size])]; exact hr
 | bool => intro x cs cs' h hr; simp only [RepF] at *; rw [h 0 (by simp [Ty.size])]; exact hr
 | sl t => intro x cs cs' h hr; simp only [RepF] at *; rw [h 0 (by simp [Ty.size])]; exact hr
 | pair a b iha ihb =>
   intro x cs cs' h hr
   simp only [RepF,Ty.size] at *
   exact ⟨iha (fun i hi => h i (by omega)) hr.1,ihb (fun i hi => h _ (by omega)) hr.2⟩
 | unit => intros; trivial
theorem RepD.congr {w:World}:∀ {T:Ty} {x:T.C} {cs cs':Nat→Value} {S:BS},(∀ i,i<T.size→cs' i=cs i)→RepD w T x cs S→RepD w T x cs' S:=by
 intro T
 induction T with
 | int k => intro x cs cs' S h hr; simp only [RepD] at *; rw [h 0 (by simp [Ty.size])]; exact hr
 | bool => intro x cs cs' S h hr; simp only [RepD] at *; rw [h 0 (by simp [Ty.size])]; exact hr
 | sl t => intro x cs cs' S h hr; simp only [RepD] at *; rw [h 0 (by simp [Ty.size])]; exact hr
 | pair a b iha ihb =>
   intro x cs cs' S h hr
   simp only [RepD,Ty.size] at *
   obtain ⟨Sa,Sb,h1,h2,h3,ha,hb⟩:=hr
   exact ⟨Sa,Sb,h1,h2,h3,iha (fun i hi => h i (by omega)) ha,ihb (fun i hi => h _ (by omega)) hb⟩
 | unit => intros; trivial
theorem RepF.stable {F F' : FS} {w w' : World} (hF : ∀ b o, F b o → F' b o) (hw : ∀ b o u, F b o → cellAt w b o = some u → cellAt w' b o = some u) :
 ∀ {T:Ty} {x:T.C} {cs:Nat→Value},RepF F w T x cs→RepF F' w' T x cs:=by
 intro T
 induction T with
 | int k => intro x cs h; exact h
 | bool => intro x cs h; exact h
 | sl t ih =>
   intro x cs h
   simp only [RepF] at *
   obtain ⟨A,c,h1,h2,h3⟩:=h
   refine ⟨A,c,h1,h2,h3.imp id ?_⟩
   rintro ⟨b,o,hA,he⟩
   refine ⟨b,o,hA,fun j y hy => ?_⟩
   obtain ⟨hc,hr⟩:=he j y hy
   refine ⟨fun i hi => ⟨hF _ _ (hc i hi).1, ?_⟩, ?_⟩
   · obtain ⟨u, hu⟩ := (hc i hi).2
     exact ⟨u,hw _ _ _ (hc i hi).1 hu⟩
   · refine (ih hr).congr fun i hi => ?_
     obtain ⟨u,hu⟩:=(hc i hi).2
     simp only [cv,hu,hw _ _ _ (hc i hi).1 hu]
 | pair a b iha ihb => intro x cs h; exact ⟨iha h.1,ihb h.2⟩
 | unit => intros; trivial
theorem RepD.stable {w w':World}:∀ {T:Ty} {x:T.C} {cs:Nat→Value} {S:BS},(∀ b,S b→w'.heap[b]?=w.heap[b]?)→RepD w T x cs S→RepD w' T x cs S:=by
 intro T
 induction T with
 | int k => intro x cs S _ h; exact h
 | bool => intro x cs S _ h; exact h
 | sl t ih =>
   intro x cs S hw h
   simp only [RepD] at *
   obtain ⟨A,c,h1,h2,h3⟩:=h
   refine ⟨A,c,h1,h2,h3.imp id ?_⟩
   rintro ⟨b,o,arr,hA,hS,⟨ty,hk⟩,hs,Ss,hs1,hs2,he⟩
   refine ⟨b,o,arr,hA,hS,⟨ty,(hw b hS).trans hk⟩,hs,Ss,hs1,hs2,fun j y hy => ?_⟩
   rw [cv_of_heap (hw b hS)]
   exact ih (fun b' hb' => hw b' (hs1 j b' hb').1) (he j y hy)
 | pair a b iha ihb =>
   intro x cs S hw h
   simp only [RepD] at *
   obtain ⟨Sa,Sb,h1,h2,h3,ha,hb⟩:=h
   exact ⟨Sa,Sb,h1,h2,h3,iha (fun b hb => hw b (h1 b hb)) ha,ihb (fun b hb => hw b (h2 b hb)) hb⟩
 | unit => intros; trivial
theorem RepD.up {w:World} {S S':BS} (h:∀ y,S y→S' y):∀ {T:Ty} {x:T.C} {cs:Nat→Value},RepD w T x cs S→RepD w T x cs S':=by
 intro T
 cases T with
 | int k => intro x cs hr; exact hr
 | bool => intro x cs hr; exact hr
 | sl t =>
   intro x cs hr
   simp only [RepD] at *
   obtain ⟨A,c,h1,h2,h3⟩:=hr
   refine ⟨A,c,h1,h2,h3.imp id ?_⟩
   rintro ⟨b,o,arr,hA,hS,hk,hs,Ss,hs1,hs2,he⟩
   exact ⟨b,o,arr,hA,h _ hS,hk,hs,Ss,fun j y hy => ⟨h _ (hs1 j y hy).1,(hs1 j y hy).2⟩,hs2,he⟩
 | pair a b =>
   intro x cs hr
   simp only [RepD] at *
   obtain ⟨Sa,Sb,h1,h2,h3,ha,hb⟩:=hr
   exact ⟨Sa,Sb,fun y hy => h y (h1 y hy),fun y hy => h y (h2 y hy),h3,ha,hb⟩
 | unit => intros; trivial
theorem CRep.stable {F F' : FS} {w w' : World} (hF : ∀ b o, F b o → F' b o) (hw : ∀ b o u, F b o → cellAt w b o = some u → cellAt w' b o = some u) {l : L} {v : Value}
 (h:CRep F w l v):CRep F' w' l v:=by
 induction h with
 | d T x v h1 h2 => exact .d T x v h1 (h2.stable hF hw)
 | nil t => exact .nil t
 | fe T x o b base h1 h2 =>
   refine .fe T x o b base (fun i hi => ⟨hF _ _ (h1 i hi).1, ?_⟩) ?_
   · obtain ⟨u, hu⟩ := (h1 i hi).2
     exact ⟨u,hw _ _ _ (h1 i hi).1 hu⟩
   · refine (h2.stable hF hw).congr fun i hi => ?_
     obtain ⟨u,hu⟩:=(h1 i hi).2
     simp only [cv,hu,hw _ _ _ (h1 i hi).1 hu]
 | rp ls o b us h1 h2 _ ih => exact .rp ls o b us (fun i l hl => hF _ _ (h1 i l hl)) (fun i l hl => hw _ _ _ (h1 i l hl) (h2 i l hl)) ih
 | fn f caps arr h1 _ ih => exact .fn f caps arr h1 ih
theorem NoF.grow {F F':FS} {S:BS} (hg:Grow F F' S) (h:NoF F S):NoF F' S:=fun b hb o ho => h b hb o (hg.no b o hb ho)
theorem RepS.stable {F F':FS} {S:BS} {w w':World} (hs:Same F S w w') (hF:∀ b o,F b o→F' b o) {t:Ty} {l:List t.C} {v:Value} (h:RepS F w t l v S):RepS F' w' t l v S:=by
 obtain ⟨A,c,h1,h2,h3⟩:=h
 refine ⟨A,c,h1,h2,h3.imp id ?_⟩
 rintro ⟨b,o,arr,hA,hS,hk,hz,he⟩
 refine ⟨b,o,arr,hA,hS,hs.blk hS hk,hz,fun j x hx => ?_⟩
 rw [cv_of_heap (hs.s b hS)]
 exact (he j x hx).stable hF hs.f
theorem HoleD.stable {w w':World} {T:Ty} {x:List T.C} {j i:Nat} {v:Value} {S:BS} (hs:∀ b,S b→w'.heap[b]?=w.heap[b]?) (h:HoleD w T x j i v S):HoleD w' T x j i v S:=by
 obtain ⟨b,off,C,arr,h1,h0,h2,⟨ty,hk⟩,hz,h3⟩:=h
 exact ⟨b,off,C,arr,h1,h0,h2,⟨ty,(hs b h2).trans hk⟩,hz,fun w2 X t y e e' arr' g1 g2 g3 g4 g5 g6 g7 g8 =>
  h3 w2 X t y e e' arr' (fun b' hb hne => (g1 b' hb hne).trans (hs b' hb)) g2 g3 (fun q hq => (g4 q hq).trans (cellAt_of_heap (hs b h2) q)) g5 g6 g7 g8⟩
theorem HoleD.back {w : World} {T : Ty} {x : List T.C} {j i : Nat} {v : Value} {S : BS} {b off n C : Nat} (h : HoleD w T x j i v S) (hv : v = .slice (some ⟨b, off, none⟩) n C) {X : BS} {t : Ty} {y : List t.C} {e e' : T.C}
 (hj:x[j]?=some e) (he:T.setL e i (.d .deep (.sl t) y)=some e') (hX:∀ b,S b→¬ X b) (hr:RepD w (.sl t) y (fun _ => cv w b (off+j * T.size) i) X):RepD w (.sl T) (x.set j e') (fun _ => v) (fun b => S b∨X b):=by
 obtain ⟨b1,off1,C1,arr,h1,h0,h2,hk,hz,h3⟩:=h
 rw [hv] at h1
 simp only [Value.slice.injEq,Option.some.injEq,Addr.mk.injEq] at h1
 obtain ⟨⟨rfl,rfl,_⟩,_⟩:=h1
 exact h3 w X t y e e' arr (fun _ _ _ => rfl) hk rfl (fun _ _ => rfl) hj he hX hr
theorem RepJ.stable {w w':World} {t:Ty} {l:List t.C} {lo hi:Nat} {v:Value} {S:BS} (hs:∀ b,S b→w'.heap[b]?=w.heap[b]?) (h:RepJ w t l lo hi v S):RepJ w' t l lo hi v S:=by
 obtain ⟨A,c,h1,h2,h3⟩:=h
 refine ⟨A,c,h1,h2,h3.imp id ?_⟩
 rintro ⟨b,o,arr,hA,hS,⟨ty,hk⟩,hz,Ss,hs1,hs2,he⟩
 refine ⟨b,o,arr,hA,hS,⟨ty,(hs b hS).trans hk⟩,hz,Ss,hs1,hs2,fun j x hx => ?_⟩
 rw [cv_of_heap (hs b hS)]
 exact (he j x hx).stable fun b' hb' => hs b' (hs1 j b' hb').1
theorem LRep.stable {F F':FS} {S:BS} {w w':World} (hs:Same F S w w') (hg:Grow F F' S) {l:L} {v:Value} (h:LRep F w l v S):LRep F' w' l v S:=by
 unfold LRep at *
 split at h
 · exact ⟨h.1.stable hs.s,h.2.grow hg⟩
 · exact ⟨h.1.stable hs hg.up,h.2.grow hg⟩
 · refine ⟨h.1.stable hg.up hs.f, ?_⟩
   obtain ⟨A,c,h1,h2⟩:=h.2
   refine ⟨A,c,h1,h2.imp id ?_⟩
   rintro ⟨b,o,arr,hA,hS,hk,hz,ht⟩
   exact ⟨b,o,arr,hA,hS,hs.blk hS hk,hz,fun hlt o' ho' => ht hlt o' (hg.no b o' hS ho')⟩
 · exact ⟨h.1.stable hs.s,h.2.grow hg⟩
 · exact h.stable hg.up hs.f
 · exact h.elim
 all_goals first | trivial | exact ⟨h.1.stable hs.s,h.2.grow hg⟩ | exact h.stable hg.up hs.f
end GoV

/- A leaf that is held may be held less strictly. -/
namespace GoV
open Go

theorem mul_lt_of {j n s i c:Nat} (hj:j<n) (hn:n≤c) (hi:i<s):j * s+i<c * s:=by
 have h1:(j+1) * s≤c * s:=Nat.mul_le_mul_right s (by omega)
 have h2:(j+1) * s=j * s+s:=Nat.succ_mul j s
 omega
theorem cellAt_blk {w:World} {b:Nat} {arr:Array Value} (h:Blk w b arr) (i:Nat):cellAt w b i=arr[i]?:=by
 obtain ⟨ty,h⟩:=h
 simp [cellAt,World.cell?,h]
theorem cellAt_lt {w:World} {b:Nat} {arr:Array Value} (h:Blk w b arr) {i:Nat} (hi:i<arr.size):∃ u,cellAt w b i=some u:=by
 rw [cellAt_blk h]
 exact ⟨arr[i],by simp [hi]⟩
theorem get_lt {α:Type} {l:List α} {j:Nat} {x:α} (h:l[j]?=some x):j<l.length:=by
 rcases Nat.lt_or_ge j l.length with h1 | h1
 · exact h1
 · simp [List.getElem?_eq_none h1] at h
theorem RepD.toF {F:FS} {w:World}:∀ {T:Ty} {x:T.C} {cs:Nat→Value} {S:BS},(∀ b o,S b→F b o)→RepD w T x cs S→RepF F w T x cs:=by
 intro T
 induction T with
 | int k => intro x cs S _ h; exact h
 | bool => intro x cs S _ h; exact h
 | sl t ih =>
   intro x cs S hF h
   simp only [RepD,RepF] at *
   obtain ⟨A,c,h1,h2,h3⟩:=h
   refine ⟨A,c,h1,h2, ?_⟩
   rcases h3 with ⟨_,hc⟩ | ⟨b,o,arr,hA,hS,hk,hs,Ss,hs1,hs2,he⟩
   · exact .inl (List.eq_nil_of_length_eq_zero (by omega))
   · refine .inr ⟨b, o, hA, fun j y hy => ⟨fun i hi => ⟨hF _ _ hS, ?_⟩, ih (fun b' o' hb' => hF b' o' (hs1 j b' hb').1) (he j y hy)⟩⟩
     have:=mul_lt_of (get_lt hy) h2 hi
     rw [Nat.add_assoc]
     exact cellAt_lt hk (by omega)
 | pair a b iha ihb =>
   intro x cs S hF h
   simp only [RepD,RepF] at *
   obtain ⟨Sa,Sb,h1,h2,h3,ha,hb⟩:=h
   exact ⟨iha (fun b' o' hb' => hF b' o' (h1 b' hb')) ha,ihb (fun b' o' hb' => hF b' o' (h2 b' hb')) hb⟩
 | unit => intros; trivial
theorem RepS.toF {F F':FS} {S:BS} {w:World} {t:Ty} {l:List t.C} {v:Value} (hF:∀ b o,F b o→F' b o) (hS':∀ b o,S b→F' b o) (h:RepS F w t l v S):RepF F' w (.sl t) l (fun _ => v):=by
 obtain ⟨A,c,h1,h2,h3⟩:=h
 simp only [RepF]
 refine ⟨A,c,h1,h2, ?_⟩
 rcases h3 with ⟨_,hc⟩ | ⟨b,o,arr,hA,hS,hk,hs,he⟩
 · exact .inl (List.eq_nil_of_length_eq_zero (by omega))
 · refine .inr ⟨b, o, hA, fun j y hy => ⟨fun i hi => ⟨hS' _ _ hS, ?_⟩, (he j y hy).stable hF (fun _ _ _ _ h => h)⟩⟩
   have:=mul_lt_of (get_lt hy) h2 hi
   rw [Nat.add_assoc]
   exact cellAt_lt hk (by omega)
theorem RepJ.toF {F:FS} {w:World} {t:Ty} {l:List t.C} {lo hi:Nat} {v:Value} {S:BS} (hF:∀ b o,S b→F b o) (h:RepJ w t l lo hi v S):RepF F w (.sl t) l (fun _ => v):=by
 obtain ⟨A,c,h1,h2,h3⟩:=h
 simp only [RepF]
 refine ⟨A,c,h1,h2, ?_⟩
 rcases h3 with ⟨_,hc⟩ | ⟨b,o,arr,hA,hS,hk,hs,Ss,hs1,hs2,he⟩
 · exact .inl (List.eq_nil_of_length_eq_zero (by omega))
 · refine .inr ⟨b, o, hA, fun j y hy => ⟨fun i hi => ⟨hF _ _ hS, ?_⟩, (he j y hy).toF (fun b' o' hb' => hF b' o' (hs1 j b' hb').1)⟩⟩
   have:=mul_lt_of (get_lt hy) h2 hi
   rw [Nat.add_assoc]
   exact cellAt_lt hk (by omega)
theorem LRep.toF {F F' : FS} {S : BS} {w : World} {o : Fl} {t : Ty} {x : List t.C} {v : Value} (hF : ∀ b o, F b o → F' b o) (hS : ∀ b o, S b → F' b o)
 (h:LRep F w (.d o (.sl t) x) v S):RepF F' w (.sl t) x (fun _ => v):=by
 cases o with
 | deep => exact h.1.toF hS
 | sha => exact h.1.toF hF hS
 | frt => exact h.1.stable hF (fun _ _ _ _ h => h)
 | jnk lo hi => exact h.1.toF hS
 | fro =>
   cases h with
   | d _ _ _ _ h2 => exact h2.stable hF (fun _ _ _ _ h => h)
theorem CRep.sl {F:FS} {w:World} {t:Ty} {x:List t.C} {v:Value} (h:RepF F w (.sl t) x (fun _ => v)):CRep F w (.d .fro (.sl t) x) v:=.d _ _ _ rfl h
structure Less (F F' : FS) (S S' : BS) : Prop where
 up:∀ b o,F b o→F' b o
 to:∀ b o,F' b o→F b o∨S b
 sub:∀ b,S' b→S b
theorem Less.grow {F F':FS} {S S' T:BS} (h:Less F F' S S') (hd:∀ b,T b→¬ S b):Grow F F' T :=
 ⟨h.up,fun b o hb ho => (h.to b o ho).resolve_right (hd b hb)⟩
theorem LRep.co {F : FS} {S : BS} {w : World} {o o' : Fl} {t : Ty} {x : List t.C} {v : Value} (hle : o.le o' = true) (h : LRep F w (.d o (.sl t) x) v S) :
 ∃ F' S',Less F F' S S'∧LRep F' w (.d o' (.sl t) x) v S':=by
 by_cases e:o=o'
 · subst e
   exact ⟨F,S,⟨fun _ _ h => h,fun _ _ h => .inl h,fun _ h => h⟩,h⟩
 by_cases e2:o'=.fro
 · subst e2
   refine ⟨fun b q => F b q∨S b,fun _ => False,⟨fun _ _ h => .inl h,fun _ _ h => h,fun _ h => h.elim⟩, ?_⟩
   exact CRep.sl (h.toF (fun _ _ h => .inl h) (fun _ _ h => .inr h))
 cases o with
 | fro => cases o' <;> simp_all [Fl.le]
 | frt => cases o' <;> simp_all [Fl.le]
 | sha =>
   cases o' with
   | deep => simp [Fl.le] at hle
   | jnk lo hi => simp [Fl.le] at hle
   | sha => exact absurd rfl e
   | fro => exact absurd rfl e2
   | frt =>
     obtain ⟨⟨A,c,h1,h2,h3⟩,hn⟩:=h
     rcases h3 with ⟨hA,hc⟩ | ⟨b,q,arr,hA,hS,hk,hs,he⟩
     · refine ⟨F,fun _ => False,⟨fun _ _ h => h,fun _ _ h => .inl h,fun _ h => h.elim⟩,⟨A,c,h1,h2,.inl (List.eq_nil_of_length_eq_zero (by omega))⟩,A,c,h1,.inl ⟨hA,hc⟩⟩
     · refine ⟨fun b' i => F b' i ∨ (b' = b ∧ i < q + x.length * t.size), fun b' => b' = b, ⟨fun _ _ h => .inl h, ?_, ?_⟩, ⟨A, c, h1, h2, .inr ⟨b, q, hA, fun j y hy => ⟨fun i hi => ⟨.inr ⟨rfl, ?_⟩, ?_⟩, (he j y hy).stable (fun _ _ h => .inl h) (fun _ _ _ _ h => h)⟩⟩⟩, A, c, h1, .inr ⟨b, q, arr, hA, rfl, hk, hs, ?_⟩⟩
       · rintro b' i (h | ⟨rfl, _⟩)
         · exact .inl h
         · exact .inr hS
       · rintro b' rfl
         exact hS
       · have := mul_lt_of (get_lt hy) (Nat.le_refl _) hi
         omega
       · have := mul_lt_of (get_lt hy) h2 hi
         rw [Nat.add_assoc]
         exact cellAt_lt hk (by omega)
       · rintro _ i (h | ⟨_, h⟩)
         · exact absurd h (hn b hS i)
         · exact h
 | jnk jl jh =>
   obtain ⟨hd,hn⟩:=h
   obtain ⟨A,c,h1,h2,h3⟩:=hd
   cases o' with
   | deep => simp [Fl.le] at hle
   | jnk lo hi => simp [Fl.le] at hle
   | fro => exact absurd rfl e2
   | sha =>
     rcases h3 with ⟨hA,hc⟩ | ⟨b,q,arr,hA,hS,hk,hs,Ss,hs1,hs2,he⟩
     · exact ⟨F,fun _ => False,⟨fun _ _ h => h,fun _ _ h => .inl h,fun _ h => h.elim⟩,⟨A,c,h1,h2,.inl ⟨hA,hc⟩⟩,fun _ h => h.elim⟩
     · refine ⟨fun b' i => F b' i ∨ (S b' ∧ b' ≠ b), fun b' => b' = b, ⟨fun _ _ h => .inl h, ?_, ?_⟩, ⟨A, c, h1, h2, .inr ⟨b, q, arr, hA, rfl, hk, hs, fun j y hy => ?_⟩⟩, ?_⟩
       · rintro b' i (h | h)
         · exact .inl h
         · exact .inr h.1
       · rintro b' rfl
         exact hS
       · exact (he j y hy).toF (fun b' o' hb' => .inr (hs1 j b' hb'))
       · rintro b' rfl i (h | h)
         · exact hn b' hS i h
         · exact h.2 rfl
   | frt =>
     rcases h3 with ⟨hA,hc⟩ | ⟨b,q,arr,hA,hS,hk,hs,Ss,hs1,hs2,he⟩
     · refine ⟨F,fun _ => False,⟨fun _ _ h => h,fun _ _ h => .inl h,fun _ h => h.elim⟩,⟨A,c,h1,h2,.inl (List.eq_nil_of_length_eq_zero (by omega))⟩,A,c,h1,.inl ⟨hA,hc⟩⟩
     · refine ⟨fun b' i => F b' i ∨ (S b' ∧ (b' ≠ b ∨ i < q + x.length * t.size)), fun b' => b' = b, ⟨fun _ _ h => .inl h, ?_, ?_⟩,
         ⟨A,c,h1,h2,.inr ⟨b,q,hA,fun j y hy => ⟨fun i hi => ⟨.inr ⟨hS,.inr ?_⟩, ?_⟩,(he j y hy).toF (fun b' o' hb' => .inr ⟨(hs1 j b' hb').1,.inl (hs1 j b' hb').2⟩)⟩⟩⟩,A,c,h1,.inr ⟨b,q,arr,hA,rfl,hk,hs, ?_⟩⟩
       · rintro b' i (h | h)
         · exact .inl h
         · exact .inr h.1
       · rintro b' rfl
         exact hS
       · have := mul_lt_of (get_lt hy) (Nat.le_refl _) hi
         omega
       · have := mul_lt_of (get_lt hy) h2 hi
         rw [Nat.add_assoc]
         exact cellAt_lt hk (by omega)
       · rintro _ i (h | ⟨_, h⟩)
         · exact absurd h (hn b hS i)
         · exact h.resolve_left (fun h => h rfl)
 | deep =>
   obtain ⟨hd,hn⟩:=h
   simp only [RepD] at hd
   obtain ⟨A,c,h1,h2,h3⟩:=hd
   cases o' with
   | deep => exact absurd rfl e
   | jnk lo hi => simp [Fl.le] at hle
   | fro => exact absurd rfl e2
   | sha =>
     rcases h3 with ⟨hA,hc⟩ | ⟨b,q,arr,hA,hS,hk,hs,Ss,hs1,hs2,he⟩
     · exact ⟨F,fun _ => False,⟨fun _ _ h => h,fun _ _ h => .inl h,fun _ h => h.elim⟩,⟨A,c,h1,h2,.inl ⟨hA,hc⟩⟩,fun _ h => h.elim⟩
     · refine ⟨fun b' i => F b' i ∨ (S b' ∧ b' ≠ b), fun b' => b' = b, ⟨fun _ _ h => .inl h, ?_, ?_⟩, ⟨A, c, h1, h2, .inr ⟨b, q, arr, hA, rfl, hk, hs, fun j y hy => ?_⟩⟩, ?_⟩
       · rintro b' i (h | h)
         · exact .inl h
         · exact .inr h.1
       · rintro b' rfl
         exact hS
       · exact (he j y hy).toF (fun b' o' hb' => .inr (hs1 j b' hb'))
       · rintro b' rfl i (h | h)
         · exact hn b' hS i h
         · exact h.2 rfl
   | frt =>
     rcases h3 with ⟨hA,hc⟩ | ⟨b,q,arr,hA,hS,hk,hs,Ss,hs1,hs2,he⟩
     · refine ⟨F,fun _ => False,⟨fun _ _ h => h,fun _ _ h => .inl h,fun _ h => h.elim⟩,⟨A,c,h1,h2,.inl (List.eq_nil_of_length_eq_zero (by omega))⟩,A,c,h1,.inl ⟨hA,hc⟩⟩
     · refine ⟨fun b' i => F b' i ∨ (S b' ∧ (b' ≠ b ∨ i < q + x.length * t.size)), fun b' => b' = b, ⟨fun _ _ h => .inl h, ?_, ?_⟩,
         ⟨A,c,h1,h2,.inr ⟨b,q,hA,fun j y hy => ⟨fun i hi => ⟨.inr ⟨hS,.inr ?_⟩, ?_⟩,(he j y hy).toF (fun b' o' hb' => .inr ⟨(hs1 j b' hb').1,.inl (hs1 j b' hb').2⟩)⟩⟩⟩,A,c,h1,.inr ⟨b,q,arr,hA,rfl,hk,hs, ?_⟩⟩
       · rintro b' i (h | h)
         · exact .inl h
         · exact .inr h.1
       · rintro b' rfl
         exact hS
       · have := mul_lt_of (get_lt hy) (Nat.le_refl _) hi
         omega
       · have := mul_lt_of (get_lt hy) h2 hi
         rw [Nat.add_assoc]
         exact cellAt_lt hk (by omega)
       · rintro _ i (h | ⟨_, h⟩)
         · exact absurd h (hn b hS i)
         · exact h.resolve_left (fun h => h rfl)
theorem LRep.ofNil {F:FS} {S:BS} {w:World} (o:Fl) (t:Ty):LRep F w (.d o (.sl t) []) (.slice none 0 0) (fun _ => False):=by
 cases o with
 | deep => exact ⟨⟨none,0,rfl,Nat.le_refl _,.inl ⟨rfl,rfl⟩⟩,fun _ h => h.elim⟩
 | sha => exact ⟨⟨none,0,rfl,Nat.le_refl _,.inl ⟨rfl,rfl⟩⟩,fun _ h => h.elim⟩
 | frt => exact ⟨⟨none,0,rfl,Nat.le_refl _,.inl rfl⟩,none,0,rfl,.inl ⟨rfl,rfl⟩⟩
 | jnk lo hi => exact ⟨⟨none,0,rfl,Nat.le_refl _,.inl ⟨rfl,rfl⟩⟩,fun _ h => h.elim⟩
 | fro => exact CRep.sl ⟨none,0,rfl,Nat.le_refl _,.inl rfl⟩
end GoV

/- The relation between V's slots and the machine's frame and memory. -/
namespace GoV
open Go

def TupR : List (Option Nat) → List Value → List Value → Prop
 | [],us,ps => us=[]∧ps=[]
 | none::ns,us,ps => ∃ u us' ps',us=u::us'∧ps=u::ps'∧TupR ns us' ps'
 | some n::ns,us,ps => ∃ us1 us2 ps',us=us1 ++ us2∧us1.length=n∧ps=.agg us1.toArray::ps'∧TupR ns us2 ps'
def VR : Sh → List Value → Value → Prop
 | .one,us,v => us=[v]
 | .agg,us,v => v=.agg us.toArray
 | .clo f,us,v => v=.func (.func f) #[.agg us.toArray] #[]
 | .tup ns,us,v => ∃ ps,v=.tuple ps.toArray∧TupR ns us ps

abbrev VS:=Nat→List Value
def RowL (l:Option L) (o:Fl) (t:Ty) (x:List t.C):Prop:=l=some (.d o (.sl t) x)∨(o=.deep∧∃ j i,l=some (.hole t x j i))
def PlHd (st:St) (vals:VS) (w:World) (p:Pl) (t:Ty) (n:Nat) (hv:Value):Prop :=
 ∃ c o t0, ∃ x0 : List t0.C, ∃ h0, st[p.r]? = some c ∧ RowL c.ls[p.k]? o t0 x0 ∧ (vals p.r)[p.k]? = some h0 ∧
   match p.sub with
   | none => t=t0∧n=x0.length∧hv=h0
   | some (j, i) => ∃ e o', ∃ y : List t.C, ∃ b off C, x0[j]? = some e ∧ t0.getL o.el e i = some (.d o' (.sl t) y) ∧
       n=y.length∧h0=.slice (some ⟨b,off,none⟩) x0.length C∧hv=cv w b (off+j * t0.size) i
def Turned (c:Cell) (p:Pl):Prop:=c.dl=true∨c.ds.testBit p.k=true∨c.ls[p.k]?=some .dead∨∃ s,p.sub=some s∧(esAt c.es p.k).testBit (colE s.2)=true
theorem RowL.d {o:Fl} {t:Ty} {x:List t.C}:RowL (some (.d o (.sl t) x)) o t x:=.inl rfl
theorem RowL.some {l:Option L} {o:Fl} {t:Ty} {x:List t.C} (h:RowL l o t x):∃ l0,l=some l0:=by
 rcases h with h | ⟨_,j,i,h⟩ <;> exact ⟨_,h⟩
theorem RowL.inj {l:Option L} {o o':Fl} {t t':Ty} {x:List t.C} {x':List t'.C} (h:RowL l o t x) (h':RowL l o' t' x'):t=t'∧o=o'∧HEq x x':=by
 rcases h with h | ⟨rfl,j,i,h⟩ <;> rcases h' with h' | ⟨rfl,j',i',h'⟩ <;> rw [h] at h'
 · simp only [Option.some.injEq, L.d.injEq, Ty.sl.injEq] at h'
   obtain ⟨rfl,rfl,h'⟩:=h'
   cases h'
   exact ⟨rfl,rfl,HEq.rfl⟩
 · cases h'
 · cases h'
 · simp only [Option.some.injEq, L.hole.injEq] at h'
   obtain ⟨rfl,h',_⟩:=h'
   cases h'
   exact ⟨rfl,rfl,HEq.rfl⟩
def Gone (st:St) (p:Pl):Prop:=∃ c,st[p.r]?=some c∧Turned c p
def Resl (sz:Nat) (rg:Option (Nat × Option Nat)) (N:Nat) (hv u:Value):Prop :=
 match rg with
 | none => u=hv
 | some (lo, q) => ∃ n, n = q.getD (N - lo) ∧ lo + n ≤ N ∧ ∃ A C, hv = .slice A N C ∧ N ≤ C ∧ ∃ A', u = .slice A' n (C - lo) ∧
  ((A=none∧A'=none)∨(lo=0∧A'=A)∨∃ b o o',A=some ⟨b,o,none⟩∧A'=some ⟨b,o',none⟩∧(lo<C→o'=o+lo * sz)∧o≤o'∧o'≤o+C * sz)
def LinkOK (st:St) (vals:VS) (B:Nat→Nat) (w:World) (l:L) (u:Value):Prop :=
 match l with
 | .lent p rg => Gone st p∨∃ t n hv,PlHd st vals w p t n hv∧Resl t.size rg n hv u
 | .eptr p j o => Gone st p∨∃ t n b off C,PlHd st vals w p t n (.slice (some ⟨b,off,none⟩) n C)∧j<n∧u=.pointer (some ⟨b,off+j * t.size+o,none⟩)
 | .ptr r o => ∃ c,st[r]?=some c∧(c.dp=true∨∃ z,c.ck=.box z∧u=.pointer (some ⟨B r,o,none⟩))
 | _ => True

def Ones (us:List Value):Prop:=∀ u,u∈us→u.oneCell'=true
def CellOK (F:FS) (w:World) (us:List Value) (b:Nat) (S0:BS) (c:Cell) (v:Value):Prop :=
 match c.ck with
 | .no => c.ls=[]∧c.ds=0∧c.es=0∧(c.dl=true→v=undef)
 | .val sh => us.length=c.ls.length∧VR sh us v∧Ones us
 | .box false => us.length=c.ls.length∧v=.pointer (some ⟨b,0,none⟩)∧Blk w b us.toArray∧S0 b∧NoF F S0∧Ones us
 | .box true => us.length = c.ls.length ∧ v = .pointer (some ⟨b, 0, none⟩) ∧ (∀ (k : Nat) (u : Value), us[k]? = some u → F b k ∧ cellAt w b k = some u) ∧
  (∀ (k:Nat) (l:L) (u:Value),c.ls[k]?=some l→us[k]?=some u→CRep F w l u)∧Ones us

structure Ctx where
 w0:World
 F0:FS
 U:BS
 SA:BS
 args:Array Value

structure Rl (G : Ctx) (fl : List (L × Value)) (st : St) (a : Act) (w : World) (vals : VS) (B : Nat → Nat) (F : FS) (S : Nat → Nat → BS) : Prop where
 sz:a.tmps.size=st.length
 df:a.defers=[]
 cell:∀ i c,st[i]?=some c→CellOK F w (vals i) (B i) (S i 0) c (a.tmps.getD i undef)
 leaf:∀ i c k l u,st[i]?=some c→c.ls[k]?=some l→(vals i)[k]?=some u→LRep F w l u (S i (k+1))∧LinkOK st vals B w l u
 fleaf:∀ k l u,fl[k]?=some (l,u)→LRep F w l u (S st.length (k+1))∧LinkOK st vals B w l u
 disj:∀ i k i' k' b,(i,k)≠(i',k')→S i k b→¬ S i' k' b
 sub:∀ i k b,S i k b→b<w.heap.size∧¬ G.U b∧(b<G.w0.heap.size→G.SA b)
 fz:∀ b o,F b o→b<w.heap.size∧(G.F0 b o∨¬ b<G.w0.heap.size∨G.SA b)
 f0:∀ b o,G.F0 b o→F b o∧∀ v,cellAt G.w0 b o=some v→cellAt w b o=some v
 un:∀ b,G.U b→b<G.w0.heap.size∧w.heap[b]?=G.w0.heap[b]?
 wo:w.os=G.w0.os∧w.tape=G.w0.tape∧w.output=G.w0.output∧G.w0.heap.size≤w.heap.size
 pin:∀ i c,st[i]?=some c→c.pin=true→a.tmps.getD i undef=G.args.getD i undef
def Rel (G:Ctx) (fl:List (L × Value)) (st:St) (a:Act) (w:World):Prop:=∃ vals B F S,Rl G fl st a w vals B F S

theorem get_set {α:Type} {l:List α} {i j:Nat} {x:α} (h:i<l.length):(l.set i x)[j]?=if i=j then some x else l[j]?:=by
 rw [List.getElem?_set]
 split
 · rename_i e; subst e; simp [h]
 · rfl
theorem getD_put {a:Act} {d i:Nat} {v:Value} (h:d<a.tmps.size):(a.put (some d) v).tmps.getD i undef=if d=i then v else a.tmps.getD i undef:=by
 simp only [Act.put,Array.getD_eq_getD_getElem?,Array.getElem?_setIfInBounds]
 split
 · rename_i e; subst e; simp [h]
 · rfl

def upS (S:Nat→Nat→BS) (i k:Nat) (X:BS):Nat→Nat→BS:=fun i' k' => if i'=i∧k'=k then X else S i' k'
theorem upS_self (S:Nat→Nat→BS) (i k:Nat) (X:BS):upS S i k X i k=X:=by simp [upS]
theorem upS_ne {S:Nat→Nat→BS} {i k i' k':Nat} {X:BS} (h:¬ (i'=i∧k'=k)):upS S i k X i' k'=S i' k':=by simp [upS,h]
/-! ## One more leaf in the air -/
theorem Rl.push {G : Ctx} {fl : List (L × Value)} {st : St} {a : Act} {w : World} {vals : VS} {B : Nat → Nat} {F : FS} {S : Nat → Nat → BS}
 (h:Rl G fl st a w vals B F S) {l:L} {u:Value} (hl:LRep F w l u (fun _ => False)) (hk:LinkOK st vals B w l u) :
 Rl G (fl ++ [(l,u)]) st a w vals B F (upS S st.length (fl.length+1) fun _ => False):=by
 refine { h with cell:=fun i c hc => ?_,leaf:=fun i c k l' u' hc hl' hu => ?_,fleaf:=fun k l' u' hf => ?_,disj:=fun i k i' k' b hne hb hb' => ?_,sub:=fun i k b hb => ?_ }
 · have hi : i < st.length := get_lt hc
   rw [upS_ne (by omega)]
   exact h.cell i c hc
 · have hi : i < st.length := get_lt hc
   rw [upS_ne (by omega)]
   exact h.leaf i c k l' u' hc hl' hu
 · by_cases e : k < fl.length
   · rw [List.getElem?_append_left e] at hf
     rw [upS_ne (by omega)]
     exact h.fleaf k l' u' hf
   · rw [List.getElem?_append_right (by omega)] at hf
     have hk0:k=fl.length:=by
        have:=get_lt hf
        simp at this
        omega
     subst hk0
     simp at hf
     obtain ⟨rfl,rfl⟩:=hf
     rw [upS_self]
     exact ⟨hl,hk⟩
 · by_cases e : i = st.length ∧ k = fl.length + 1
   · obtain ⟨rfl, rfl⟩ := e
     rw [upS_self] at hb
     exact hb
   · rw [upS_ne e] at hb
     by_cases e':i'=st.length∧k'=fl.length+1
     · obtain ⟨rfl, rfl⟩ := e'
       rw [upS_self] at hb'
       exact hb'
     · rw [upS_ne e'] at hb'
       exact h.disj i k i' k' b hne hb hb'
 · by_cases e : i = st.length ∧ k = fl.length + 1
   · obtain ⟨rfl, rfl⟩ := e
     rw [upS_self] at hb
     exact hb.elim
   · rw [upS_ne e] at hb
     exact h.sub i k b hb
end GoV

/- Steps of the relation: a leaf taken away, held less strictly, laid into a slot. -/
namespace GoV
open Go

theorem getL_fl {o o2:Fl}:∀ {T:Ty} {x:T.C} {i:Nat} {t:Ty} {y:List t.C} {o':Fl},T.getL o x i=some (.d o' (.sl t) y)→T.getL o2 x i=some (.d o2 (.sl t) y):=by
 intro T
 induction T with
 | int k => intro x i t y o' h; cases i <;> simp [Ty.getL] at h
 | bool => intro x i t y o' h; cases i <;> simp [Ty.getL] at h
 | sl t0 =>
   intro x i t y o' h
   cases i with
   | zero =>
     simp only [Ty.getL,Option.some.injEq,L.d.injEq,Ty.sl.injEq] at h
     obtain ⟨rfl,rfl,h⟩:=h
     cases h
     rfl
   | succ i => simp [Ty.getL] at h
 | pair a b iha ihb =>
   intro x i t y o' h
   simp only [Ty.getL] at *
   split at h
   · rename_i hi; rw [if_pos hi]; exact iha h
   · rename_i hi; rw [if_neg hi]; exact ihb h
 | unit => intro x i t y o' h; cases i <;> simp [Ty.getL] at h
theorem getL_fl' {o:Fl}:∀ {T:Ty} {x:T.C} {i:Nat} {t:Ty} {y:List t.C} {o':Fl},T.getL o x i=some (.d o' (.sl t) y)→o'=o:=by
 intro T
 induction T with
 | int k => intro x i t y o' h; cases i <;> simp [Ty.getL] at h
 | bool => intro x i t y o' h; cases i <;> simp [Ty.getL] at h
 | sl t0 =>
   intro x i t y o' h
   cases i with
   | zero =>
     simp only [Ty.getL,Option.some.injEq,L.d.injEq,Ty.sl.injEq] at h
     exact h.1.symm
   | succ i => simp [Ty.getL] at h
 | pair a b iha ihb =>
   intro x i t y o' h
   simp only [Ty.getL] at h
   split at h
   · exact iha h
   · exact ihb h
 | unit => intro x i t y o' h; cases i <;> simp [Ty.getL] at h

def SubLe (c : Nat) (t : Ty) (x x' : List t.C) : Prop := ∀ (j : Nat) (e : t.C), x[j]? = some e → ∃ e', x'[j]? = some e' ∧
 ∀ (fl:Fl) (i:Nat) (t1:Ty) (y:List t1.C) (o1:Fl),c.testBit (colE i)=false→t.getL fl e i=some (.d o1 (.sl t1) y)→∃ y':List t1.C,t.getL fl e' i=some (.d o1 (.sl t1) y')∧y'.length=y.length
theorem SubLe.refl (c:Nat) (t:Ty) (x:List t.C):SubLe c t x x:=fun _ e h => ⟨e,h,fun _ _ _ y _ _ h => ⟨y,h,rfl⟩⟩
theorem testBit_allE (i:Nat):allE.testBit (colE i)=true:=by
 have h:allE=2 ^ 64 - 1:=rfl
 rw [h,Nat.testBit_two_pow_sub_one]
 have:colE i<64:=by unfold colE; omega
 simpa using this
theorem SubLe.all (t:Ty) {x x':List t.C} (h:x'.length=x.length):SubLe allE t x x':=fun j e hj => by
 have hlt:j<x'.length:=by
  rcases Nat.lt_or_ge j x.length with h1 | h1
  · omega
  · simp [List.getElem?_eq_none h1] at hj
 exact ⟨x'[j],by simp [hlt],fun fl i t1 y o1 hc => by rw [testBit_allE] at hc; cases hc⟩
theorem esUp_zero (k:Nat):esUp 0 k=0:=by simp [esUp]
theorem esAt_testBit (es k i:Nat):(esAt es k).testBit i=(decide (i<64) && es.testBit (64 * k+i)):=by
 have h:(18446744073709551616:Nat)=2 ^ 64:=rfl
 rw [esAt,h,Nat.testBit_mod_two_pow,Nat.testBit_shiftRight]
theorem esUp_testBit (e k i:Nat):(esUp e k).testBit i=(decide (64 * k≤i) && (decide (i - 64 * k<64) && e.testBit (i - 64 * k))):=by
 have h:(18446744073709551616:Nat)=2 ^ 64:=rfl
 rw [esUp,h,Nat.testBit_shiftLeft,Nat.testBit_mod_two_pow]
theorem esAt_up {es e k q i:Nat}:(esAt (es ||| esUp e k) q).testBit i=((esAt es q).testBit i || (decide (i<64) && (decide (q=k) && e.testBit i))):=by
 rw [esAt_testBit,esAt_testBit,Nat.testBit_or,esUp_testBit]
 by_cases hi:i<64
 · by_cases hq : q = k
   · subst hq
     simp [hi]
   · have:(decide (64 * k≤64 * q+i) && (decide (64 * q+i - 64 * k<64) && e.testBit (64 * q+i - 64 * k)))=false:=by
        by_cases h1:64 * k≤64 * q+i
        · have : ¬ (64 * q + i - 64 * k < 64) := by omega
          simp [this]
        · simp [h1]
     simp [this,hq]
 · simp [hi]
theorem esAt_col {es e k q i:Nat}:(esAt (es ||| esUp e k) q).testBit (colE i)=((esAt es q).testBit (colE i) || (decide (q=k) && e.testBit (colE i))):=by
 rw [esAt_up]
 have:colE i<64:=by unfold colE; omega
 simp [this]
theorem esAt_ne {es e k q:Nat} (h:q≠k):esAt (es ||| esUp e k) q=esAt es q:=by
 refine Nat.eq_of_testBit_eq fun i => ?_
 rw [esAt_up]
 simp [h]
def L.mute : L → Bool
 | .d _ _ _ => false
 | .hole _ _ _ _ => false
 | .dead => false
 | _ => true
def LeafLe (d : Bool) (e : Nat) (l l' : Option L) : Prop := d = true ∨ l' = l ∨ l' = some .dead ∨ (∃ l0, l = some l0 ∧ L.mute l0 = true) ∨
 ∃ o o' t,∃ x x':List t.C,RowL l o t x∧RowL l' o' t x'∧x'.length=x.length∧SubLe e t x x'
structure CellLe (c c' : Cell) : Prop where
 ck:∀ z,c.ck=.box z→c'.dp=true∨∃ z',c'.ck=.box z'
 dl:c.dl=true→c'.dl=true
 dp:c.dp=true→c'.dp=true
 ds:∀ k,c.ds.testBit k=true→c'.ds.testBit k=true
 es:∀ k i,(esAt c.es k).testBit (colE i)=true→(esAt c'.es k).testBit (colE i)=true
 ls:c'.dl=true∨∀ k:Nat,LeafLe (c'.ds.testBit k) (esAt c'.es k) c.ls[k]? c'.ls[k]?
theorem Turned.le {c c':Cell} (h:CellLe c c') {p:Pl} (hd:Turned c p):Turned c' p:=by
 rcases hd with hd | hd | hd | ⟨s,hs,hd⟩
 · exact .inl (h.dl hd)
 · exact .inr (.inl (h.ds _ hd))
 · rcases h.ls with h | h
   · exact .inl h
   · rcases h p.k with h | h | h | ⟨l0, h, hm⟩ | ⟨o, o', t, x, x', h, _⟩
     · exact .inr (.inl h)
     · exact .inr (.inr (.inl (h.trans hd)))
     · exact .inr (.inr (.inl h))
     · rw [hd] at h; cases h; cases hm
     · rw [hd] at h; rcases h with h | ⟨_,_,_,h⟩ <;> cases h
 · exact .inr (.inr (.inr ⟨s,hs,h.es _ _ hd⟩))
theorem Gone.set {st:St} {r:Nat} {c c':Cell} (hr:st[r]?=some c) (h:CellLe c c') {p:Pl} (hg:Gone st p):Gone (st.set r c') p:=by
 have hlt:=get_lt hr
 obtain ⟨q,hq,hd⟩:=hg
 by_cases e:r=p.r
 · subst e
   rw [hr] at hq
   obtain rfl:=Option.some.inj hq
   exact ⟨c',by rw [get_set hlt]; simp,hd.le h⟩
 · exact ⟨q,by rw [get_set hlt,if_neg e]; exact hq,hd⟩
theorem PlHd.set {st : St} {vals : VS} {w : World} {r : Nat} {c c' : Cell} (hr : st[r]? = some c) (h : CellLe c c') {p : Pl} {t : Ty} {n : Nat} {hv : Value}
 (hp:PlHd st vals w p t n hv):Gone (st.set r c') p∨PlHd (st.set r c') vals w p t n hv:=by
 have hlt:=get_lt hr
 obtain ⟨q,o,t0,x0,h0,hq,hl,hh,hm⟩:=hp
 by_cases e:r=p.r
 · subst e
   rw [hr] at hq
   obtain rfl:=Option.some.inj hq
   have hs:(st.set p.r c')[p.r]?=some c':=by rw [get_set hlt]; simp
   rcases h.ls with h | h
   · exact .inl ⟨c',hs,.inl h⟩
   rcases h p.k with h | h | h | ⟨l1,h,hmu⟩ | ⟨o1,o2,t1,x1,x2,h1,h2,h3,h4⟩
   · exact .inl ⟨c',hs,.inr (.inl h)⟩
   · exact .inr ⟨c',o,t0,x0,h0,hs,by rw [h]; exact hl,hh,hm⟩
   · exact .inl ⟨c',hs,.inr (.inr (.inl h))⟩
   · rcases hl with hl | ⟨_,_,_,hl⟩ <;> rw [hl] at h <;> cases h <;> cases hmu
   · obtain ⟨rfl, rfl, hx1⟩ := hl.inj h1
     obtain rfl:=eq_of_heq hx1
     obtain ⟨pr,pk,ps⟩:=p
     cases ps with
     | none =>
       obtain ⟨m1,m2,m3⟩:=hm
       subst m1
       exact .inr ⟨c',o2,_,x2,h0,hs,h2,hh,rfl,m2.trans h3.symm,m3⟩
     | some q =>
       obtain ⟨j,i⟩:=q
       cases hcol:(esAt c'.es pk).testBit (colE i) with
       | true => exact .inl ⟨c',hs,.inr (.inr (.inr ⟨_,rfl,hcol⟩))⟩
       | false =>
       obtain ⟨e,o',y,b,off,C,g1,g2,g3,g4,g5⟩:=hm
       obtain ⟨e',k1,k2⟩:=h4 j e g1
       obtain ⟨y',k3,k4⟩:=k2 _ _ _ _ _ hcol g2
       refine .inr ⟨c',o2,t0,x2,h0,hs,h2,hh,e',_,y',b,off,C,k1,getL_fl k3,g3.trans k4.symm, ?_,g5⟩
       rw [g4,h3]
 · exact .inr ⟨q,o,t0,x0,h0,by rw [get_set hlt,if_neg e]; exact hq,hl,hh,hm⟩
theorem LinkOK.set {st : St} {vals : VS} {B : Nat → Nat} {w : World} {r : Nat} {c c' : Cell} (hr : st[r]? = some c) (h : CellLe c c') {l : L} {u : Value}
 (hk:LinkOK st vals B w l u):LinkOK (st.set r c') vals B w l u:=by
 have hlt:=get_lt hr
 cases l with
 | lent p rg =>
   rcases hk with hk | ⟨t,n,hv,hk,hu⟩
   · exact .inl (hk.set hr h)
   · exact (hk.set hr h).imp id fun hk => ⟨t,n,hv,hk,hu⟩
 | eptr p j o =>
   rcases hk with hk | ⟨t,n,b,off,C,hk,hu⟩
   · exact .inl (hk.set hr h)
   · exact (hk.set hr h).imp id fun hk => ⟨t,n,b,off,C,hk,hu⟩
 | ptr q o =>
   obtain ⟨d,hd,hk⟩:=hk
   by_cases e:r=q
   · subst e
     rw [hr] at hd
     obtain rfl:=Option.some.inj hd
     refine ⟨c',by rw [get_set hlt]; simp, ?_⟩
     rcases hk with hk | ⟨z,hz,hu⟩
     · exact .inl (h.dp hk)
     · rcases h.ck z hz with h | ⟨z', h⟩
       · exact .inl h
       · exact .inr ⟨z',h,hu⟩
   · exact ⟨d,by rw [get_set hlt,if_neg e]; exact hd,hk⟩
 | _ => trivial
theorem testBit_bit (b:Bool) (k j:Nat):(bit b k).testBit j=(b && decide (k=j)):=by
 cases b
 · simp [bit]
 · simp [bit,Nat.testBit_two_pow]
theorem CellLe.leaf {c : Cell} {k : Nat} {l l' : L} {d : Bool} {e : Nat} (hl : c.ls[k]? = some l) (h : LeafLe d e (some l) (some l')) : CellLe c (c.setL k l' d e) where
 ck:=fun z hz => .inr ⟨z,hz⟩
 dl:=id
 dp:=id
 ds:=fun j hj => by simp [Cell.setL,hj]
 es:=fun j i hj => by simp only [Cell.setL]; rw [esAt_col,hj,Bool.true_or]
 ls:=.inr fun q => by
  simp only [Cell.setL]
  rw [get_set (get_lt hl)]
  by_cases e:k=q
  · subst e
    rw [if_pos rfl,hl]
    rcases h with h | h | h | h | ⟨o,o',t,x,x',h1,h2,h3,h4⟩
    · exact .inl (by simp [testBit_bit,h])
    · exact .inr (.inl h)
    · exact .inr (.inr (.inl h))
    · exact .inr (.inr (.inr (.inl h)))
    · refine .inr (.inr (.inr (.inr ⟨o, o', t, x, x', h1, h2, h3, fun j e0 hj => ?_⟩)))
      obtain ⟨e1,k1,k2⟩:=h4 j e0 hj
      refine ⟨e1,k1,fun fl i t1 y o1 hcol => k2 fl i t1 y o1 ?_⟩
      rw [esAt_col] at hcol
      simpa using (Bool.or_eq_false_iff.1 hcol).2
  · rw [if_neg e]
    exact .inr (.inl rfl)
theorem CellOK.stable {F F' : FS} {w w' : World} {us : List Value} {b : Nat} {S0 : BS} {c : Cell} {v : Value} (hs : Same F S0 w w') (hg : Grow F F' S0)
 (h:CellOK F w us b S0 c v):CellOK F' w' us b S0 c v:=by
 unfold CellOK at *
 split <;> rename_i hck <;> simp only [hck] at h
 · exact h
 · exact h
 · obtain ⟨h1, h2, h3, h4, h5, h6⟩ := h
   exact ⟨h1,h2,hs.blk h4 h3,h4,h5.grow hg,h6⟩
 · obtain ⟨h1, h2, h3, h4, h5⟩ := h
   exact ⟨h1,h2,fun k u hu => ⟨hg.up _ _ (h3 k u hu).1,hs.f _ _ _ (h3 k u hu).1 (h3 k u hu).2⟩,fun k l u hl hu => (h4 k l u hl hu).stable hg.up hs.f,h5⟩
theorem Same.refl (F:FS) (S:BS) (w:World):Same F S w w:=⟨fun _ _ _ _ h => h,fun _ _ => rfl⟩
theorem Grow.refl (F:FS) (S:BS):Grow F F S:=⟨fun _ _ h => h,fun _ _ _ h => h⟩

section
variable {G:Ctx} {fl:List (L × Value)} {st:St} {a:Act} {w:World} {vals:VS} {B:Nat→Nat} {F:FS} {S:Nat→Nat→BS}

theorem CellOK.ls {us : List Value} {b : Nat} {S0 : BS} {c c' : Cell} {v : Value} (hk : c'.ck = c.ck) (hl : c'.ls.length = c.ls.length) (hno : c.ls ≠ []) (hb : ∀ z, c.ck = .box z → z = false)
 (h:CellOK F w us b S0 c v):CellOK F w us b S0 c' v:=by
 unfold CellOK at *
 rw [hk]
 split <;> rename_i hck <;> simp only [hck] at h
 · exact absurd h.1 hno
 · exact ⟨by rw [hl]; exact h.1,h.2⟩
 · exact ⟨by rw [hl]; exact h.1,h.2⟩
 · have := hb _ hck
   cases this
theorem Rl.val_at (h:Rl G fl st a w vals B F S) {i k:Nat} {c:Cell} {l:L} (hc:st[i]?=some c) (hl:c.ls[k]?=some l):∃ u,(vals i)[k]?=some u:=by
 have:=h.cell i c hc
 have hk:=get_lt hl
 unfold CellOK at this
 split at this
 · rw [this.1] at hk; simp at hk
 all_goals
  have hlen:=this.1
  exact ⟨(vals i)[k]'(by omega),by simp [List.getElem?_eq_getElem (show k<(vals i).length by omega)]⟩
theorem Rl.steal (h : Rl G fl st a w vals B F S) {r k : Nat} {c : Cell} {o : Fl} {t : Ty} {x : List t.C} {hv : Value} (hc : st[r]? = some c) (hl : c.ls[k]? = some (.d o (.sl t) x))
 (hu:(vals r)[k]?=some hv) (ho:o≠.fro) :
 Rl G (fl ++ [(.d o (.sl t) x, hv)]) (st.set r (c.setL k .dead false 0)) a w vals B F
  (upS (upS S st.length (fl.length+1) (S r (k+1))) r (k+1) fun _ => False):=by
 have hlt:=get_lt hc
 have hle:CellLe c (c.setL k .dead false 0):=.leaf hl (.inr (.inr (.inl rfl)))
 have hlen:(st.set r (c.setL k .dead false 0)).length=st.length:=by simp
 have hbox:∀ z,c.ck=.box z→z=false:=by
  intro z hz
  cases z with
  | false => rfl
  | true =>
    have:=h.cell r c hc
    simp only [CellOK,hz] at this
    have hcr:=this.2.2.2.1 k _ _ hl hu
    cases hcr
    exact absurd rfl ho
 refine ⟨by rw [hlen]; exact h.sz,h.df,fun i q hq => ?_,fun i q k' l u hq hl' hu' => ?_,fun k' l u hf => ?_,fun i k1 i' k2 b hne hb hb' => ?_,fun i k1 b hb => ?_,h.fz,h.f0,h.un,h.wo,fun i q hq hp => ?_⟩
 · rw [get_set hlt] at hq
   have hi:i<st.length:=by
    split at hq
    · omega
    · exact get_lt hq
   rw [upS_ne (by omega),upS_ne (by omega)]
   split at hq
   · rename_i e; subst e
     obtain rfl:=Option.some.inj hq
     exact CellOK.ls (c:=c) rfl (by simp [Cell.setL]) (by intro e; rw [e] at hl; simp at hl) hbox (h.cell r c hc)
   · exact h.cell i q hq
 · rw [get_set hlt] at hq
   split at hq
   · rename_i e; subst e
     obtain rfl:=Option.some.inj hq
     simp only [Cell.setL] at hl'
     rw [get_set (get_lt hl)] at hl'
     split at hl'
     · obtain rfl := Option.some.inj hl'
       exact ⟨trivial,trivial⟩
     · rename_i e2
       rw [upS_ne (by omega),upS_ne (by omega)]
       obtain ⟨g1,g2⟩:=h.leaf r c k' l u hc hl' hu'
       exact ⟨g1,g2.set hc hle⟩
   · rename_i e
     have hi:=get_lt hq
     rw [upS_ne (by omega),upS_ne (by omega)]
     obtain ⟨g1,g2⟩:=h.leaf i q k' l u hq hl' hu'
     exact ⟨g1,g2.set hc hle⟩
 · rw [hlen]
   rw [upS_ne (by omega)]
   by_cases e:k'<fl.length
   · rw [List.getElem?_append_left e] at hf
     rw [upS_ne (by omega)]
     obtain ⟨g1,g2⟩:=h.fleaf k' l u hf
     exact ⟨g1,g2.set hc hle⟩
   · rw [List.getElem?_append_right (by omega)] at hf
     have hk0:k'=fl.length:=by
       have:=get_lt hf
       simp at this
       omega
     subst hk0
     simp at hf
     obtain ⟨rfl,rfl⟩:=hf
     rw [upS_self]
     exact ⟨(h.leaf r c k _ _ hc hl hu).1,trivial⟩
 · by_cases e : i = r ∧ k1 = k + 1
   · obtain ⟨rfl,rfl⟩:=e; rw [upS_self] at hb; exact hb
   rw [upS_ne e] at hb
   by_cases e':i'=r∧k2=k+1
   · obtain ⟨rfl,rfl⟩:=e'; rw [upS_self] at hb'; exact hb'
   rw [upS_ne e'] at hb'
   by_cases f:i=st.length∧k1=fl.length+1
   · obtain ⟨rfl, rfl⟩ := f
     rw [upS_self] at hb
     by_cases f':i'=st.length∧k2=fl.length+1
     · obtain ⟨rfl,rfl⟩:=f'; exact hne rfl
     · rw [upS_ne f'] at hb'
       exact h.disj r (k+1) i' k2 b (fun e => e' (by simp at e; omega)) hb hb'
   · rw [upS_ne f] at hb
     by_cases f':i'=st.length∧k2=fl.length+1
     · obtain ⟨rfl, rfl⟩ := f'
       rw [upS_self] at hb'
       exact h.disj r (k+1) i k1 b (fun q => e (by simp at q; omega)) hb' hb
     · rw [upS_ne f'] at hb'
       exact h.disj i k1 i' k2 b hne hb hb'
 · by_cases e : i = r ∧ k1 = k + 1
   · obtain ⟨rfl,rfl⟩:=e; rw [upS_self] at hb; exact hb.elim
   rw [upS_ne e] at hb
   by_cases f:i=st.length∧k1=fl.length+1
   · obtain ⟨rfl,rfl⟩:=f; rw [upS_self] at hb; exact h.sub r (k+1) b hb
   · rw [upS_ne f] at hb; exact h.sub i k1 b hb
 · rw [get_set hlt] at hq
   split at hq
   · rename_i e; subst e
     obtain rfl:=Option.some.inj hq
     exact h.pin r c hc hp
   · exact h.pin i q hq hp
end
end GoV

/- More steps of the relation. -/
namespace GoV
open Go
section
variable {G:Ctx} {fl:List (L × Value)} {st:St} {a:Act} {w:World} {vals:VS} {B:Nat→Nat} {F F':FS} {S:Nat→Nat→BS} {S0':BS}

theorem Rl.grow (h:Rl G fl st a w vals B F S) {i0 k0:Nat} (hl:Less F F' (S i0 k0) S0') {i k:Nat} (hne:(i,k)≠(i0,k0)):Grow F F' (S i k) :=
 hl.grow fun b hb hb' => h.disj i k i0 k0 b hne hb hb'
theorem Rl.less_disj (h : Rl G fl st a w vals B F S) {i0 k0 : Nat} (hl : ∀ b, S0' b → S i0 k0 b) :
 ∀ i k i' k' b,(i,k)≠(i',k')→upS S i0 k0 S0' i k b→¬ upS S i0 k0 S0' i' k' b:=by
 intro i k i' k' b hne hb hb'
 have q:∀ i k,upS S i0 k0 S0' i k b→S i k b:=by
  intro i k hb
  by_cases e:i=i0∧k=k0
  · obtain ⟨rfl,rfl⟩:=e; rw [upS_self] at hb; exact hl b hb
  · rw [upS_ne e] at hb; exact hb
 exact h.disj i k i' k' b hne (q _ _ hb) (q _ _ hb')
theorem Rl.less_sub (h : Rl G fl st a w vals B F S) {i0 k0 : Nat} (hl : ∀ b, S0' b → S i0 k0 b) :
 ∀ i k b,upS S i0 k0 S0' i k b→b<w.heap.size∧¬ G.U b∧(b<G.w0.heap.size→G.SA b):=by
 intro i k b hb
 by_cases e:i=i0∧k=k0
 · obtain ⟨rfl,rfl⟩:=e; rw [upS_self] at hb; exact h.sub _ _ b (hl b hb)
 · rw [upS_ne e] at hb; exact h.sub i k b hb
theorem Rl.less_fz (h : Rl G fl st a w vals B F S) {i0 k0 : Nat} (hl : Less F F' (S i0 k0) S0') :
 ∀ b o,F' b o→b<w.heap.size∧(G.F0 b o∨¬ b<G.w0.heap.size∨G.SA b):=by
 intro b o hb
 rcases hl.to b o hb with hb | hb
 · exact h.fz b o hb
 · obtain ⟨h1, _, h3⟩ := h.sub _ _ b hb
   refine ⟨h1,.inr ?_⟩
   by_cases e:b<G.w0.heap.size
   · exact .inr (h3 e)
   · exact .inl e
theorem Rl.coFloat (h : Rl G fl st a w vals B F S) {m : Nat} {l l' : L} {u u' : Value} (hm : fl[m]? = some (l, u)) (hl : Less F F' (S st.length (m + 1)) S0')
 (hr:LRep F' w l' u' S0') (hk:LinkOK st vals B w l' u'):Rl G (fl.set m (l',u')) st a w vals B F' (upS S st.length (m+1) S0'):=by
 refine ⟨h.sz,h.df,fun i c hc => ?_,fun i c k l1 u1 hc hl1 hu1 => ?_,fun k l1 u1 hf => ?_,h.less_disj hl.sub,h.less_sub hl.sub,h.less_fz hl,fun b o hb => ⟨hl.up _ _ (h.f0 b o hb).1,(h.f0 b o hb).2⟩,h.un,h.wo,h.pin⟩
 · have hi := get_lt hc
   rw [upS_ne (by omega)]
   exact (h.cell i c hc).stable (.refl _ _ _) (h.grow hl (by simp; try omega))
 · have hi := get_lt hc
   rw [upS_ne (by omega)]
   obtain ⟨g1,g2⟩:=h.leaf i c k l1 u1 hc hl1 hu1
   exact ⟨g1.stable (.refl _ _ _) (h.grow hl (by simp; omega)),g2⟩
 · rw [get_set (get_lt hm)] at hf
   split at hf
   · rename_i e; subst e
     obtain ⟨rfl,rfl⟩:=Prod.mk.inj (Option.some.inj hf)
     rw [upS_self]
     exact ⟨hr,hk⟩
   · rename_i e
     rw [upS_ne (by omega)]
     obtain ⟨g1,g2⟩:=h.fleaf k l1 u1 hf
     exact ⟨g1.stable (.refl _ _ _) (h.grow hl (by simp; omega)),g2⟩
theorem Rl.coSlot (h : Rl G fl st a w vals B F S) {r k : Nat} {c : Cell} {l l' : L} {u : Value} {d : Bool} {e : Nat} (hc : st[r]? = some c) (hlf : c.ls[k]? = some l) (hu : (vals r)[k]? = some u)
 (hl:Less F F' (S r (k+1)) S0') (hbox:∀ z,c.ck=.box z→z=false)
 (hr:LRep F' w l' u S0') (hk:LinkOK st vals B w l' u) (hle:LeafLe d e (some l) (some l')) :
 Rl G fl (st.set r (c.setL k l' d e)) a w vals B F' (upS S r (k+1) S0'):=by
 have hlt:=get_lt hc
 have hcl:CellLe c (c.setL k l' d e):=.leaf hlf hle
 have hlen:(st.set r (c.setL k l' d e)).length=st.length:=by simp
 refine ⟨by rw [hlen]; exact h.sz,h.df,fun i q hq => ?_,fun i q k1 l1 u1 hq hl1 hu1 => ?_,fun k1 l1 u1 hf => ?_,h.less_disj hl.sub,h.less_sub hl.sub,h.less_fz hl,fun b o hb => ⟨hl.up _ _ (h.f0 b o hb).1,(h.f0 b o hb).2⟩,h.un,h.wo,fun i q hq hp => ?_⟩
 · rw [get_set hlt] at hq
   rw [upS_ne (by omega)]
   split at hq
   · rename_i e; subst e
     obtain rfl:=Option.some.inj hq
     refine CellOK.ls (c:=c) rfl (by simp [Cell.setL]) (by intro e; rw [e] at hlf; simp at hlf) hbox ?_
     exact (h.cell r c hc).stable (.refl _ _ _) (h.grow hl (by simp))
   · exact (h.cell i q hq).stable (.refl _ _ _) (h.grow hl (by simp))
 · rw [get_set hlt] at hq
   split at hq
   · rename_i e; subst e
     obtain rfl:=Option.some.inj hq
     simp only [Cell.setL] at hl1
     rw [get_set (get_lt hlf)] at hl1
     split at hl1
     · rename_i e; subst e
       obtain rfl:=Option.some.inj hl1
       rw [hu] at hu1
       obtain rfl:=Option.some.inj hu1
       rw [upS_self]
       exact ⟨hr,hk.set hc hcl⟩
     · rename_i e
       rw [upS_ne (by omega)]
       obtain ⟨g1,g2⟩:=h.leaf r c k1 l1 u1 hc hl1 hu1
       exact ⟨g1.stable (.refl _ _ _) (h.grow hl (by simp; omega)),g2.set hc hcl⟩
   · rename_i e
     rw [upS_ne (by omega)]
     obtain ⟨g1,g2⟩:=h.leaf i q k1 l1 u1 hq hl1 hu1
     exact ⟨g1.stable (.refl _ _ _) (h.grow hl (by simp; omega)),g2.set hc hcl⟩
 · rw [hlen]
   rw [upS_ne (by omega)]
   obtain ⟨g1,g2⟩:=h.fleaf k1 l1 u1 hf
   exact ⟨g1.stable (.refl _ _ _) (h.grow hl (by simp; omega)),g2.set hc hcl⟩
 · rw [get_set hlt] at hq
   split at hq
   · rename_i e; subst e
     obtain rfl:=Option.some.inj hq
     exact h.pin r c hc hp
   · exact h.pin i q hq hp

theorem LinkOK.put {d : Nat} {old c' : Cell} (hd : st[d]? = some old) (hno : isNo old.ck = true → old.ls = [] ∧ old.ds = 0 ∧ old.es = 0) (hdl : c'.dl = (!isNo old.ck || old.dl)) (hdp : c'.dp = (!isNo old.ck || old.dp))
 {us:List Value} {b:Nat} {l:L} {u:Value} (hk:LinkOK st vals B w l u) :
 LinkOK (st.set d c') (fun i => if i=d then us else vals i) (fun i => if i=d then b else B i) w l u:=by
 have hlt:=get_lt hd
 have hs:(st.set d c')[d]?=some c':=by rw [get_set hlt]; simp
 have gone:∀ p:Pl,p.r=d→(Turned old p∨(∃ x,old.ls[p.k]?=some x))→Gone (st.set d c') p:=by
  intro p e hq
  subst e
  refine ⟨c',hs,.inl ?_⟩
  rw [hdl]
  cases hn:isNo old.ck with
  | false => rfl
  | true =>
    obtain ⟨h1,h2,h3⟩:=hno hn
    rcases hq with (hq | hq | hq | ⟨_,_,hq⟩) | ⟨x,hq⟩
    · simp [hq]
    · simp [h2] at hq
    · simp [h1] at hq
    · simp [h3,esAt] at hq
    · simp [h1] at hq
 have goneG:∀ p:Pl,Gone st p→Gone (st.set d c') p:=by
  rintro p ⟨q,hq,hg⟩
  by_cases e:p.r=d
  · refine gone p e ?_
    rw [e,hd] at hq
    obtain rfl:=Option.some.inj hq
    exact .inl hg
  · exact ⟨q,by rw [get_set hlt,if_neg (fun h => e h.symm)]; exact hq,hg⟩
 have hdP:∀ (p:Pl) t n hv,PlHd st vals w p t n hv→Gone (st.set d c') p∨PlHd (st.set d c') (fun i => if i=d then us else vals i) w p t n hv:=by
  rintro p t n hv ⟨q,o,t0,x0,h0,hq,hl,hh,hm⟩
  by_cases e:p.r=d
  · refine .inl (gone p e ?_)
    rw [e,hd] at hq
    obtain rfl:=Option.some.inj hq
    exact .inr hl.some
  · exact .inr ⟨q,o,t0,x0,h0,by rw [get_set hlt,if_neg (fun h => e h.symm)]; exact hq,hl,by simpa [e] using hh,hm⟩
 cases l with
 | lent p rg =>
   rcases hk with hk | ⟨t,n,hv,hk,hu⟩
   · exact .inl (goneG p hk)
   · exact (hdP p t n hv hk).imp id fun hk => ⟨t,n,hv,hk,hu⟩
 | eptr p j o =>
   rcases hk with hk | ⟨t,n,b,off,C,hk,hu⟩
   · exact .inl (goneG p hk)
   · exact (hdP _ _ _ _ hk).imp id fun hk => ⟨t,n,b,off,C,hk,hu⟩
 | ptr q o =>
   obtain ⟨e,he,hk⟩:=hk
   by_cases e2:q=d
   · subst e2
     rw [hd] at he
     obtain rfl:=Option.some.inj he
     refine ⟨c',hs,.inl ?_⟩
     rw [hdp]
     rcases hk with hk | ⟨z,hz,_⟩
     · simp [hk]
     · simp [hz,isNo]
   · exact ⟨e,by rw [get_set hlt,if_neg (fun h => e2 h.symm)]; exact he,by simpa [e2] using hk⟩
 | _ => trivial
theorem Rl.put (h : Rl G fl st a w vals B F S) {d : Nat} {old : Cell} (hd : st[d]? = some old) (hp : old.pin = false) {ck : CK} {v : Value} {b : Nat} {S0 : BS}
 (hcell:CellOK F w (fl.map (·.2)) b S0 ⟨ck,fl.map (·.1),false,!isNo old.ck || old.dl,!isNo old.ck || old.dp,0,0⟩ v)
 (hS0:∀ y,S0 y→(y<w.heap.size∧¬ G.U y∧(y<G.w0.heap.size→G.SA y))∧∀ i k,¬ S i k y) :
 Rl G [] (st.set d ⟨ck, fl.map (·.1), false, !isNo old.ck || old.dl, !isNo old.ck || old.dp, 0, 0⟩) (a.put (some d) v) w (fun i => if i = d then fl.map (·.2) else vals i) (fun i => if i = d then b else B i) F
  (fun i k => if i=d then (if k=0 then S0 else S st.length k) else if i=st.length then (fun _ => False) else S i k):=by
 have hlt:=get_lt hd
 have hlen:(st.set d (⟨ck,fl.map (·.1),false,!isNo old.ck || old.dl,!isNo old.ck || old.dp,0,0⟩:Cell)).length=st.length:=by simp
 have hlt':d<a.tmps.size:=by rw [h.sz]; exact hlt
 have hno:isNo old.ck=true→old.ls=[]∧old.ds=0∧old.es=0:=by
  intro hn
  have:=h.cell d old hd
  cases hk:old.ck <;> simp_all [isNo,CellOK]
 refine ⟨?_,h.df,fun i q hq => ?_,fun i q k l u hq hl hu => ?_,fun k l u hf => ?_,fun i k i' k' y hne hy hy' => ?_,fun i k y hy => ?_,h.fz,h.f0,h.un,h.wo,fun i q hq hpin => ?_⟩
 · rw [hlen]
   simp [Act.put,h.sz]
 · rw [get_set hlt] at hq
   rw [getD_put hlt']
   split at hq
   · rename_i e; subst e
     obtain rfl:=Option.some.inj hq
     simpa using hcell
   · rename_i e
     have hi:=get_lt hq
     rw [if_neg e]
     simpa [show ¬ (i=d) from fun q => e q.symm,show ¬ (i=st.length) by omega] using h.cell i q hq
 · rw [get_set hlt] at hq
   split at hq
   · rename_i e; subst e
     obtain rfl:=Option.some.inj hq
     simp only [if_true] at hu ⊢
     dsimp only at hl
     rw [List.getElem?_map] at hl hu
     obtain ⟨x,hx,rfl⟩:=Option.map_eq_some_iff.1 hl
     rw [hx] at hu
     simp at hu
     subst hu
     obtain ⟨g1,g2⟩:=h.fleaf k x.1 x.2 hx
     exact ⟨by simpa using g1,g2.put hd hno rfl rfl⟩
   · rename_i e
     have hi:=get_lt hq
     have e':¬ (i=d):=fun q => e q.symm
     simp only [if_neg e'] at hu
     obtain ⟨g1,g2⟩:=h.leaf i q k l u hq hl hu
     exact ⟨by simpa [e',show ¬ (i=st.length) by omega] using g1,g2.put hd hno rfl rfl⟩
 · simp at hf
 · have key : ∀ i k, (if i = d then (if k = 0 then S0 else S st.length k) else if i = st.length then (fun _ => False) else S i k) y →
        (i=d∧k=0∧S0 y)∨(i=d∧k≠0∧S st.length k y)∨(i≠d∧i≠st.length∧S i k y):=by
    intro i k hy
    split at hy
    · split at hy
      · exact .inl ⟨by assumption,by assumption,hy⟩
      · exact .inr (.inl ⟨by assumption,by assumption,hy⟩)
    · split at hy
      · exact hy.elim
      · exact .inr (.inr ⟨by assumption,by assumption,hy⟩)
   rcases key i k hy with ⟨rfl,rfl,h1⟩ | ⟨rfl,hk,h1⟩ | ⟨hi,hi2,h1⟩ <;> rcases key i' k' hy' with ⟨h3,rfl,h2⟩ | ⟨h3,hk',h2⟩ | ⟨hi',hi2',h2⟩
   · exact hne (by rw [h3])
   · exact (hS0 y h1).2 _ _ h2
   · exact (hS0 y h1).2 _ _ h2
   · exact (hS0 y h2).2 _ _ h1
   · exact h.disj _ _ _ _ y (fun e => hne (by simp at e; rw [h3,e])) h1 h2
   · exact h.disj _ _ _ _ y (fun e => hi2' (by simp at e; exact e.1.symm)) h1 h2
   · exact (hS0 y h2).2 _ _ h1
   · exact h.disj _ _ _ _ y (fun e => hi2 (by simp at e; exact e.1)) h1 h2
   · exact h.disj i k i' k' y hne h1 h2
 · split at hy
   · split at hy
     · exact (hS0 y hy).1
     · exact h.sub _ _ y hy
   · split at hy
     · exact hy.elim
     · exact h.sub i k y hy
 · rw [get_set hlt] at hq
   rw [getD_put hlt']
   split at hq
   · obtain rfl := Option.some.inj hq
     cases hpin
   · rename_i e
     rw [if_neg e]
     exact h.pin i q hq hpin
end
end GoV

/- The relation behind a change of memory; how programs over slots run. -/
namespace GoV
open Go

theorem getL_lt {o:Fl}:∀ {T:Ty} {x:T.C} {i:Nat} {l:L},T.getL o x i=some l→i<T.size:=by
 intro T
 induction T with
 | int k => intro x i l h; cases i <;> simp [Ty.getL,Ty.size] at *
 | bool => intro x i l h; cases i <;> simp [Ty.getL,Ty.size] at *
 | sl t0 => intro x i l h; cases i <;> simp [Ty.getL,Ty.size] at *
 | pair a b iha ihb =>
   intro x i l h
   simp only [Ty.getL,Ty.size] at *
   split at h
   · have:=iha h; omega
   · have:=ihb h; omega
 | unit => intro x i l h; cases i <;> simp [Ty.getL] at h
theorem LRep.elem_cell {F : FS} {S : BS} {w : World} {o : Fl} {t : Ty} {x : List t.C} {b off n C : Nat} (h : LRep F w (.d o (.sl t) x) (.slice (some ⟨b, off, none⟩) n C) S)
 {j i:Nat} {e:t.C} (hj:x[j]?=some e) (hi:i<t.size) :
 (S b∨F b (off+j * t.size+i))∧∃ u,cellAt w b (off+j * t.size+i)=some u:=by
 have ofF:RepF F w (.sl t) x (fun _ => .slice (some ⟨b,off,none⟩) n C)→(S b∨F b (off+j * t.size+i))∧∃ u,cellAt w b (off+j * t.size+i)=some u:=by
  rintro ⟨A,c,h1,h2,h3⟩
  rcases h3 with rfl | ⟨b',o',hA,he⟩
  · simp at hj
  · simp only [Value.slice.injEq] at h1
    obtain ⟨rfl,_,_⟩:=h1
    simp only [Option.some.injEq,Addr.mk.injEq] at hA
    obtain ⟨rfl,rfl,_⟩:=hA
    exact ⟨.inr ((he j e hj).1 i hi).1,((he j e hj).1 i hi).2⟩
 have own : ∀ {A : Option Addr} {c : Nat}, (Value.slice (some ⟨b, off, none⟩) n C) = .slice A x.length c → x.length ≤ c → ∀ {b' o' : Nat} {arr : Array Value}, A = some ⟨b', o', none⟩ → S b' → Blk w b' arr → o' + c * t.size ≤ arr.size →
  (S b∨F b (off+j * t.size+i))∧∃ u,cellAt w b (off+j * t.size+i)=some u:=by
  intro A c h1 h2 b' o' arr hA hS hk hs
  subst hA
  simp only [Value.slice.injEq,Option.some.injEq,Addr.mk.injEq] at h1
  obtain ⟨⟨rfl,rfl,_⟩,rfl,rfl⟩:=h1
  refine ⟨.inl hS, ?_⟩
  have:=mul_lt_of (get_lt hj) h2 hi
  rw [Nat.add_assoc]
  exact cellAt_lt hk (by omega)
 have none_no:∀ {A:Option Addr} {c:Nat},(Value.slice (some ⟨b,off,none⟩) n C)=.slice A x.length c→A=none∧c=0→False:=by
  rintro A c h1 ⟨rfl,_⟩
  simp at h1
 cases o with
 | fro =>
   cases h with
   | d _ _ _ _ h2 => exact ofF h2
 | frt => exact ofF h.1
 | sha =>
   obtain ⟨⟨A,c,h1,h2,h3⟩,_⟩:=h
   rcases h3 with h3 | ⟨b',o',arr,hA,hS,hk,hs,_⟩
   · exact (none_no h1 h3).elim
   · exact own h1 h2 hA hS hk hs
 | deep =>
   obtain ⟨h,_⟩:=h
   simp only [RepD] at h
   obtain ⟨A,c,h1,h2,h3⟩:=h
   rcases h3 with h3 | ⟨b',o',arr,hA,hS,hk,hs,_⟩
   · exact (none_no h1 h3).elim
   · exact own h1 h2 hA hS hk hs
 | jnk lo hi =>
   obtain ⟨⟨A,c,h1,h2,h3⟩,_⟩:=h
   rcases h3 with h3 | ⟨b',o',arr,hA,hS,hk,hs,_⟩
   · exact (none_no h1 h3).elim
   · exact own h1 h2 hA hS hk hs

section
variable {G:Ctx} {fl:List (L × Value)} {st:St} {a:Act} {w w':World} {vals:VS} {B:Nat→Nat} {F:FS} {S:Nat→Nat→BS}
theorem Rl.row_cell (h : Rl G fl st a w vals B F S) {r k : Nat} {c : Cell} {o : Fl} {t : Ty} {x : List t.C} {b off n C : Nat} (hc : st[r]? = some c) (hl : RowL c.ls[k]? o t x) (hu : (vals r)[k]? = some (.slice (some ⟨b, off, none⟩) n C))
 {j i:Nat} {e:t.C} (hj:x[j]?=some e) (hi:i<t.size):(S r (k+1) b∨F b (off+j * t.size+i))∧∃ u,cellAt w b (off+j * t.size+i)=some u:=by
 rcases hl with hl | ⟨rfl,jh,ih,hl⟩
 · exact (h.leaf r c k _ _ hc hl hu).1.elem_cell hj hi
 · obtain ⟨⟨b1, off1, C1, arr, h1, h0, h2, hk, hz, _⟩, _⟩ := (h.leaf r c k _ _ hc hl hu).1
   simp only [Value.slice.injEq,Option.some.injEq,Addr.mk.injEq] at h1
   obtain ⟨⟨rfl,rfl,_⟩,_⟩:=h1
   refine ⟨.inl h2, ?_⟩
   have:=mul_lt_of (get_lt hj) h0 hi
   rw [Nat.add_assoc]
   exact cellAt_lt hk (by omega)
theorem Rl.cv_same (h : Rl G fl st a w vals B F S) (hf : ∀ b o u, F b o → cellAt w b o = some u → cellAt w' b o = some u) (hs : ∀ i k b, S i k b → w'.heap[b]? = w.heap[b]?)
 {p:Pl} {t:Ty} {n:Nat} {hv:Value} (hp:PlHd st vals w p t n hv):PlHd st vals w' p t n hv:=by
 obtain ⟨c,o,t0,x0,h0,hc,hl,hu,hm⟩:=hp
 refine ⟨c,o,t0,x0,h0,hc,hl,hu, ?_⟩
 obtain ⟨pr,pk,ps⟩:=p
 cases ps with
 | none => exact hm
 | some q =>
   obtain ⟨j,i⟩:=q
   obtain ⟨e,o',y,b,off,C,g1,g2,g3,rfl,rfl⟩:=hm
   refine ⟨e,o',y,b,off,C,g1,g2,g3,rfl, ?_⟩
   obtain ⟨h1,u,h2⟩:=h.row_cell (r:=pr) (k:=pk) hc hl hu g1 (getL_lt g2)
   simp only [cv,h2]
   rcases h1 with h1 | h1
   · rw [cellAt_of_heap (hs _ _ _ h1),h2]
   · rw [hf _ _ _ h1 h2]
theorem Rl.link_world (h : Rl G fl st a w vals B F S) (hf : ∀ b o u, F b o → cellAt w b o = some u → cellAt w' b o = some u) (hs : ∀ i k b, S i k b → w'.heap[b]? = w.heap[b]?)
 {l:L} {u:Value} (hk:LinkOK st vals B w l u):LinkOK st vals B w' l u:=by
 cases l with
 | lent p rg => exact hk.imp id fun ⟨t,n,hv,hp,hu⟩ => ⟨t,n,hv,h.cv_same hf hs hp,hu⟩
 | eptr p j o => exact hk.imp id fun ⟨t,n,b,off,C,hp,hu⟩ => ⟨t,n,b,off,C,h.cv_same hf hs hp,hu⟩
 | _ => exact hk
theorem Rl.world (h : Rl G fl st a w vals B F S) (hf : ∀ b o u, F b o → cellAt w b o = some u → cellAt w' b o = some u) (hs : ∀ i k b, S i k b → w'.heap[b]? = w.heap[b]?)
 (hu:∀ b,G.U b→w'.heap[b]?=w.heap[b]?) (ho:w'.os=w.os) (ht:w'.tape=w.tape) (hp:w'.output=w.output) (hz:w.heap.size≤w'.heap.size):Rl G fl st a w' vals B F S where
 sz:=h.sz
 df:=h.df
 cell i c hc:=(h.cell i c hc).stable ⟨hf,hs i 0⟩ (.refl _ _)
 leaf i c k l u hc hl hu':=by
  obtain ⟨g1,g2⟩:=h.leaf i c k l u hc hl hu'
  exact ⟨g1.stable ⟨hf,hs i (k+1)⟩ (.refl _ _),h.link_world hf hs g2⟩
 fleaf k l u hl:=by
  obtain ⟨g1,g2⟩:=h.fleaf k l u hl
  exact ⟨g1.stable ⟨hf,hs _ (k+1)⟩ (.refl _ _),h.link_world hf hs g2⟩
 disj:=h.disj
 sub i k b hb:=⟨Nat.lt_of_lt_of_le (h.sub i k b hb).1 hz,(h.sub i k b hb).2⟩
 fz b o hb:=⟨Nat.lt_of_lt_of_le (h.fz b o hb).1 hz,(h.fz b o hb).2⟩
 f0 b o hb:=⟨(h.f0 b o hb).1,fun v hv => hf b o v (h.f0 b o hb).1 ((h.f0 b o hb).2 v hv)⟩
 un b hb:=⟨(h.un b hb).1,(hu b hb).trans (h.un b hb).2⟩
 wo:=⟨ho.trans h.wo.1,ht.trans h.wo.2.1,hp.trans h.wo.2.2.1,Nat.le_trans h.wo.2.2.2 hz⟩
 pin:=h.pin
theorem Rl.alloc (h:Rl G fl st a w vals B F S) (o:Obj):Rl G fl st a (w.alloc o) vals B F S:=by
 refine h.world (fun b q u hb hu => ?_) (fun i k b hb => ?_) (fun b hb => ?_) rfl rfl rfl (by simp)
 · rw [cellAt_of_heap (RowKit.Below.heap_alloc w o b (h.fz b q hb).1)]; exact hu
 · exact RowKit.Below.heap_alloc w o b (h.sub i k b hb).1
 · exact RowKit.Below.heap_alloc w o b (Nat.lt_of_lt_of_le (h.un b hb).1 h.wo.2.2.2)
theorem Rl.drawn (h:Rl G fl st a w vals B F S) (n:Nat):Rl G fl st a { w with drawn:=n } vals B F S :=
 h.world (fun _ _ _ _ h => h) (fun _ _ _ _ => rfl) (fun _ _ => rfl) rfl rfl rfl (Nat.le_refl _)
end

/-! ## Programs over slots -/
namespace M
variable {α β:Type}
theorem exec_bind (m:M α) (f:α→M β):∀ st,(m >>= f).exec st=(m.exec st).bind fun q => (f q.1).exec q.2:=by
 show ∀ st,(m.bind f).exec st=_
 induction m with
 | pure x => intro st; rfl
 | fail => intro st; rfl
 | must b k ih =>
   intro st
   simp only [M.bind,exec]
   cases b with
   | true => exact ih st
   | false => rfl
 | alt b k1 k2 ih1 ih2 =>
   intro st
   simp only [M.bind,exec]
   cases b with
   | true => exact ih1 st
   | false => exact ih2 st
 | ext β o k ih =>
   intro st
   simp only [M.bind,exec]
   cases o with
   | none => rfl
   | some x => exact ih x st
 | get i k ih =>
   intro st
   simp only [M.bind,exec]
   cases st[i]? with
   | none => rfl
   | some c => exact ih c st
 | head i k ih =>
   intro st
   simp only [M.bind,exec]
   cases st[i]? with
   | none => rfl
   | some c => exact ih c.hd st
 | leaf i j k ih =>
   intro st
   simp only [M.bind,exec]
   cases st[i]? with
   | none => rfl
   | some c =>
     simp only []
     cases c.ls[j]? with
     | none => rfl
     | some l => exact ih _ _ _ st
 | set i c k ih =>
   intro st
   simp only [M.bind,exec]
   split
   · exact ih _
   · rfl
 | view i k ih =>
   intro st
   simp only [M.bind,exec]
   cases st[i]? with
   | none => rfl
   | some c => exact ih _ st
 | setL i j l d e s k ih =>
   intro st
   simp only [M.bind,exec]
   cases st[i]? with
   | none => rfl
   | some c =>
     simp only []
     split
     · exact ih _
     · rfl
theorem exec_pure (x:α) (st:St):(Pure.pure x:M α).exec st=some (x,st):=rfl
theorem exec_read (i:Nat) (st:St):(M.read i).exec st=st[i]?.map fun c => (c,st):=by
 simp only [M.read,exec]
 cases st[i]? <;> rfl
theorem exec_write (i:Nat) (c:Cell) (st:St):(M.write i c).exec st=if i<st.length then some ((),st.set i c) else none:=rfl
theorem exec_opt (o:Option α) (st:St):(M.opt o).exec st=o.map fun x => (x,st):=by cases o <;> rfl
theorem exec_must (b:Bool) (st:St):(M.check b).exec st=if b=true then some ((),st) else none:=by cases b <;> rfl
theorem runK_eq {γ:Type}:∀ (m:M α) (st:St) (K:α→St→List (Nat × Nat) × List (Nat × Nat)→Option γ),m.runK st K=match m.exec st with | some (x,st') => K x st' (m.foot st) | none => none:=by
 intro m
 induction m with
 | pure x => intro st K; rfl
 | fail => intro st K; rfl
 | must b k ih => intro st K; simp only [runK, exec, foot]; cases b with
   | true => exact ih st K
   | false => rfl
 | alt b k1 k2 ih1 ih2 => intro st K; simp only [runK, exec, foot]; cases b with
   | true => exact ih1 st K
   | false => exact ih2 st K
 | ext β o k ih =>
   intro st K
   cases o with
   | none => rfl
   | some x => exact ih x st K
 | get i k ih => intro st K; simp only [runK, exec, foot]; cases st[i]? with
   | none => rfl
   | some c => exact ih c st _
 | head i k ih => intro st K; simp only [runK, exec, foot]; cases st[i]? with
   | none => rfl
   | some c => exact ih c.hd st _
 | leaf i j k ih => intro st K; simp only [runK, exec, foot]; cases st[i]? with
   | none => rfl
   | some c =>
     simp only []
     cases c.ls[j]? with
     | none => rfl
     | some l => exact ih _ _ _ st _
 | set i c k ih => intro st K; simp only [runK, exec, foot]; split
                   · exact ih _ _
                   · rfl
 | view i k ih => intro st K; simp only [runK, exec, foot]; cases st[i]? with
   | none => rfl
   | some c => exact ih _ st _
 | setL i j l d e s k ih => intro st K; simp only [runK, exec, foot]; cases st[i]? with
   | none => rfl
   | some c =>
     simp only []
     split
     · exact ih _ _
     · rfl
theorem nth_some {z:α} {x:List α} {j:Nat} {e:α} {st st':St} (h:(M.nth z x j).exec st=some (e,st')):x[j]?=some e∧st'=st:=by
 simp only [M.nth,exec] at h
 by_cases hj:j<x.length
 · simp [hj] at h
   exact ⟨by simp [hj,h.1],h.2.symm⟩
 · simp [hj] at h
theorem nth_of {z:α} {x:List α} {j:Nat} {e:α} {st:St} (h:x[j]?=some e):(M.nth z x j).exec st=some (e,st):=by
 have hj:j<x.length:=by
  rcases Nat.lt_or_ge j x.length with h1 | h1
  · exact h1
  · simp [List.getElem?_eq_none h1] at h
 simp only [M.nth,exec]
 simp [hj] at h ⊢
 exact h
theorem call_some {r:CallR} {st st':St} {p:Val × List Cell} (h:(M.call r).exec st=some (p,st')):r.get=some p∧st'=st:=by
 obtain ⟨β,o,sel,f,g⟩:=r
 cases o with
 | none => simp [M.call,exec] at h
 | some b =>
   simp only [M.call,exec] at h
   cases hb:sel b
   · rw [hb] at h
     simp only [cond_false,Option.some.injEq,Prod.mk.injEq] at h
     exact ⟨by simp [CallR.get,CallR.two,hb,h.1],h.2.symm⟩
   · rw [hb] at h
     simp only [cond_true,Option.some.injEq,Prod.mk.injEq] at h
     exact ⟨by simp [CallR.get,CallR.two,hb,h.1],h.2.symm⟩
theorem bind_some {m:M α} {f:α→M β} {st st':St} {y:β} (h:(m >>= f).exec st=some (y,st')):∃ x st1,m.exec st=some (x,st1)∧(f x).exec st1=some (y,st'):=by
 rw [exec_bind] at h
 obtain ⟨q,h1,h2⟩:=Option.bind_eq_some_iff.1 h
 exact ⟨q.1,q.2,h1,h2⟩
theorem read_some {i:Nat} {st st':St} {c:Cell} (h:(M.read i).exec st=some (c,st')):st[i]?=some c∧st'=st:=by
 rw [exec_read] at h
 obtain ⟨q,h1,h2⟩:=Option.map_eq_some_iff.1 h
 obtain ⟨rfl,rfl⟩:=Prod.mk.inj h2
 exact ⟨h1,rfl⟩
theorem write_some {i:Nat} {c:Cell} {st st':St} {u:Unit} (h:(M.write i c).exec st=some (u,st')):i<st.length∧st'=st.set i c:=by
 rw [exec_write] at h
 split at h
 · simp at h; exact ⟨by assumption,h.symm⟩
 · cases h
theorem peek_some {i:Nat} {st st':St} {q:Hd} (h:(M.peek i).exec st=some (q,st')):∃ c,st[i]?=some c∧q=c.hd∧st'=st:=by
 simp only [M.peek,exec] at h
 split at h
 · rename_i c hc
   simp only [Option.some.injEq,Prod.mk.injEq] at h
   exact ⟨c,hc,h.1.symm,h.2.symm⟩
 · cases h
theorem leafAt_some {i j : Nat} {st st' : St} {q : L × Bool × Nat} (h : (M.leafAt i j).exec st = some (q, st')) :
 ∃ c l,st[i]?=some c∧c.ls[j]?=some l∧q=(l,c.ds.testBit j,esAt c.es j)∧st'=st:=by
 simp only [M.leafAt,exec] at h
 split at h
 · rename_i c hc
   split at h
   · rename_i l hl
     simp only [Option.some.injEq,Prod.mk.injEq] at h
     exact ⟨c,l,hc,hl,h.1.symm,h.2.symm⟩
   · cases h
 · cases h
theorem okS_lt {s:Bool} {c:Cell} {j:Nat} {l:L} (h:okS s c j l=true):j<c.ls.length:=by
 simp only [okS,Bool.and_eq_true,decide_eq_true_eq] at h
 exact h.1
theorem okS_of {c:Cell} {j:Nat} {l:L} (h:j<c.ls.length):okS false c j l=true:=by simp [okS,h]
theorem writeL_some {i j : Nat} {l : L} {d : Bool} {e : Nat} {st st' : St} {u : Unit} (h : (M.writeL i j l d e).exec st = some (u, st')) :
 ∃ c,st[i]?=some c∧j<c.ls.length∧st'=st.set i (c.setL j l d e):=by
 simp only [M.writeL,exec] at h
 split at h
 · rename_i c hc
   split at h
   · rename_i ho
     simp only [Option.some.injEq,Prod.mk.injEq] at h
     exact ⟨c,hc,okS_lt ho,h.2.symm⟩
   · cases h
 · cases h
theorem writeS_some {i j : Nat} {l : L} {d : Bool} {e : Nat} {st st' : St} {u : Unit} (h : (M.writeS i j l d e).exec st = some (u, st')) :
 ∃ c,st[i]?=some c∧j<c.ls.length∧st'=st.set i (c.setL j l d e):=by
 simp only [M.writeS,exec] at h
 split at h
 · rename_i c hc
   split at h
   · rename_i ho
     simp only [Option.some.injEq,Prod.mk.injEq] at h
     exact ⟨c,hc,okS_lt ho,h.2.symm⟩
   · cases h
 · cases h
theorem look_some {i:Nat} {st st':St} {ls:List L} (h:(M.look i).exec st=some (ls,st')):∃ c,st[i]?=some c∧ls=viewLs i 0 c.ls∧st'=st:=by
 simp only [M.look,exec] at h
 split at h
 · rename_i c hc
   simp only [Option.some.injEq,Prod.mk.injEq] at h
   exact ⟨c,hc,h.1.symm,h.2.symm⟩
 · cases h
theorem opt_some {o:Option α} {st st':St} {x:α} (h:(M.opt o).exec st=some (x,st')):o=some x∧st'=st:=by
 rw [exec_opt] at h
 obtain ⟨q,h1,h2⟩:=Option.map_eq_some_iff.1 h
 obtain ⟨rfl,rfl⟩:=Prod.mk.inj h2
 exact ⟨h1,rfl⟩
theorem must_some {b:Bool} {st st':St} {u:Unit} (h:(M.check b).exec st=some (u,st')):b=true∧st'=st:=by
 rw [exec_must] at h
 split at h
 · simp at h; exact ⟨by assumption,h.symm⟩
 · cases h
theorem pure_some {x y:α} {st st':St} (h:(Pure.pure x:M α).exec st=some (y,st')):y=x∧st'=st:=by
 rw [exec_pure] at h
 simp at h
 exact ⟨h.1.symm,h.2.symm⟩
theorem fail_some {y:α} {st st':St} (h:(M.fail:M α).exec st=some (y,st')):False:=by simp [exec] at h
end M
end GoV

/- Programs over slots hang on what they read alone: those that do not meet may change places. -/
namespace GoV
open Go

inductive Wr where
 | all (i:Nat) (c:Cell)
 | one (i j:Nat) (l:L) (d:Bool) (e:Nat) (s:Bool)
def Wr.part : Wr → Nat × Nat
 | .all i _ => (i,0)
 | .one i j _ _ _ s => (i,if s then 3 * j+3 else 3 * j+2)
def Wr.ap : Wr → St → Option St
 | .all i c,st => if i<st.length then some (st.set i c) else none
 | .one i j l d e s, st => match st[i]? with
   | some c => if okS s c j l=true then some (st.set i (c.setL j l d e)) else none
   | none => none
def aps : List Wr → St → Option St
 | [],st => some st
 | w::ws,st => (w.ap st).bind (aps ws)
namespace M
def wr {α : Type} : M α → St → List Wr
 | .pure _,_ => []
 | .fail,_ => []
 | .must b k,st => bif b then k.wr st else []
 | .alt b k1 k2,st => bif b then k1.wr st else k2.wr st
 | .ext _ o k, st => match o with
   | some x => (k x).wr st
   | none => []
 | .get i k, st => match st[i]? with
   | some c => (k c).wr st
   | none => []
 | .head i k, st => match st[i]? with
   | some c => (k c.hd).wr st
   | none => []
 | .leaf i j k, st => match st[i]? with
   | some c => match c.ls[j]? with
     | some l => (k l (c.ds.testBit j) (esAt c.es j)).wr st
     | none => []
   | none => []
 | .set i c k,st => .all i c::k.wr (st.set i c)
 | .view i k, st => match st[i]? with
   | some c => (k (viewLs i 0 c.ls)).wr st
   | none => []
 | .setL i j l d e s k, st => match st[i]? with
   | some c => .one i j l d e s::k.wr (st.set i (c.setL j l d e))
   | none => []
end M
theorem Wr.len {q:Wr} {st st1:St} (h:q.ap st=some st1):st1.length=st.length:=by
 cases q with
 | all i c =>
   simp only [ap] at h
   split at h
   · simp at h; subst h; simp
   · cases h
 | one i j l d e s =>
   simp only [ap] at h
   split at h
   · split at h
     · simp at h; subst h; simp
     · cases h
   · cases h
theorem Wr.far {q:Wr} {st st1:St} (h:q.ap st=some st1) {i:Nat} (hne:q.part.1≠i):st1[i]?=st[i]?:=by
 cases q with
 | all i' c =>
   simp only [ap] at h
   split at h
   · simp at h; subst h
     exact List.getElem?_set_ne hne
   · cases h
 | one i' j l d e s =>
   simp only [ap] at h
   split at h
   · split at h
     · simp at h; subst h
       exact List.getElem?_set_ne hne
     · cases h
   · cases h
theorem sameLeaf_at {j a b:Nat} (ha:a<3) (hb:b<3) (h:a+b≠3):sameLeaf (3 * j+2+a) (3 * j+2+b)=true:=by
 simp only [sameLeaf,Bool.and_eq_true,decide_eq_true_eq,Nat.beq_eq,Bool.not_eq_true']
 refine ⟨by omega,by omega,by omega, ?_⟩
 cases e:Nat.beq ((3 * j+2+a - 2) % 3+(3 * j+2+b - 2) % 3) 3 with
 | false => rfl
 | true =>
   rw [Nat.beq_eq] at e
   omega
theorem over_at {i j a b:Nat} (ha:a<3) (hb:b<3) (h:a+b≠3):over (i,3 * j+2+a) (i,3 * j+2+b)=true:=by
 simp only [over,sameLeaf_at ha hb h,Bool.or_true,Bool.and_true,beq_self_eq_true]
theorem over_one {i j p b:Nat} {s:Bool} (ho:over (i,if s then 3 * j+3 else 3 * j+2) (i,p)=false) (hp:p=3 * j+2+b) (hb:b<3):s=true∧b=2:=by
 subst hp
 cases s with
 | false =>
   have:=over_at (i:=i) (j:=j) (a:=0) (b:=b) (by omega) hb (by omega)
   simp only [Nat.add_zero] at this
   simp only [Bool.false_eq_true,if_false] at ho
   rw [this] at ho
   cases ho
 | true =>
   refine ⟨rfl, ?_⟩
   by_cases e:b=2
   · exact e
   · have := over_at (i := i) (j := j) (a := 1) (b := b) (by omega) hb (by omega)
     simp only [if_true] at ho
     rw [this] at ho
     cases ho
theorem Wr.near {q : Wr} {st st1 : St} (h : q.ap st = some st1) {i p : Nat} (ho : over q.part (i, p) = false) : st1[i]? = st[i]? ∨
 ∃ j l d e s c,q=.one i j l d e s∧p≠0∧(∀ b,p=3 * j+2+b→b<3→s=true∧b=2)∧st[i]?=some c∧okS s c j l=true∧st1[i]?=some (c.setL j l d e):=by
 cases q with
 | all i' c =>
   refine .inl (far h fun e => ?_)
   simp only [part] at e
   subst e
   simp [over,part] at ho
 | one i' j l d e s =>
   by_cases hi:i'=i
   · subst hi
     simp only [ap] at h
     split at h
     · rename_i c hc
       split at h
       · rename_i hj
         simp at h; subst h
         refine .inr ⟨j,l,d,e,s,c,rfl, ?_,fun b hp hb => over_one ho hp hb,hc,hj,by rw [get_set (get_lt hc)]; simp⟩
         intro e; subst e; simp [over,part] at ho
       · cases h
     · cases h
   · exact .inl (far h hi)
theorem sameLeaf_comm (a b:Nat):sameLeaf a b=sameLeaf b a:=by
 simp only [sameLeaf]
 have e1:Nat.beq ((a - 2) / 3) ((b - 2) / 3)=Nat.beq ((b - 2) / 3) ((a - 2) / 3):=by
  rw [Bool.eq_iff_iff,Nat.beq_eq,Nat.beq_eq]
  exact ⟨fun h => h.symm,fun h => h.symm⟩
 rw [e1,Nat.add_comm ((a - 2) % 3)]
 cases decide (2≤a) <;> cases decide (2≤b) <;> rfl
theorem over_comm (a b:Nat × Nat):over a b=over b a:=by
 obtain ⟨a,c⟩:=a
 obtain ⟨b,d⟩:=b
 simp only [over]
 rw [Bool.beq_comm (a:=a),Bool.beq_comm (a:=c),sameLeaf_comm c d]
 cases c == 0 <;> cases d == 0 <;> cases d == c <;> rfl
theorem setL_hd (c:Cell) (j:Nat) (l:L) (d:Bool) (e:Nat):(c.setL j l d e).hd=c.hd:=by simp [Cell.hd,Cell.setL]
theorem setL_leaf {c : Cell} {j k : Nat} {l : L} {d : Bool} {e : Nat} (h : k ≠ j) :
 (c.setL j l d e).ls[k]?=c.ls[k]?∧(c.setL j l d e).ds.testBit k=c.ds.testBit k∧esAt (c.setL j l d e).es k=esAt c.es k:=by
 have h':j≠k:=fun e => h e.symm
 refine ⟨by simp [Cell.setL,h'], ?_, ?_⟩
 · simp [Cell.setL,testBit_bit,h']
 · simp only [Cell.setL]; exact esAt_ne h
theorem setL_comm {c:Cell} {j k:Nat} {l m:L} {d d':Bool} {e e':Nat} (h:k≠j):(c.setL j l d e).setL k m d' e'=(c.setL k m d' e').setL j l d e:=by
 simp only [Cell.setL,Cell.mk.injEq,true_and]
 refine ⟨List.set_comm _ _ (fun e => h e.symm), ?_, ?_⟩
 · rw [Nat.or_assoc,Nat.or_comm (bit d j),← Nat.or_assoc]
 · rw [Nat.or_assoc,Nat.or_comm (esUp e j),← Nat.or_assoc]
theorem viewL_own {t k:Nat} {o:Fl} {T:Ty} {x:T.C} (h:o≠.fro):viewL t k (.d o T x)=.lent ⟨t,k,none⟩ none:=by
 cases o <;> first | rfl | exact absurd rfl h
theorem viewL_same {t k:Nat} {x l:L} (h:sameView x l=true):viewL t k l=viewL t k x:=by
 unfold sameView at h
 split at h
 · simp only [Bool.and_eq_true, Bool.not_eq_true', decide_eq_false_iff_not] at h
   rw [viewL_own h.1,viewL_own h.2]
 · simp only [Bool.not_eq_true', decide_eq_false_iff_not] at h
   rw [viewL_own h]
   rfl
 · simp only [Bool.not_eq_true', decide_eq_false_iff_not] at h
   rw [viewL_own h]
   rfl
 · cases h
theorem viewLs_set {t : Nat} : ∀ {ls : List L} {k j : Nat} {l : L}, sameView (ls.getD j .dead) l = true → j < ls.length → viewLs t k (ls.set j l) = viewLs t k ls
 | [],_,_,_,_,h => by simp at h
 | x::ls,k,0,l,h,_ => by
   simp only [List.set_cons_zero,viewLs]
   have:viewL t k l=viewL t k x:=viewL_same h
   rw [this]
 | x::ls,k,j+1,l,h,hj => by
   simp only [List.set_cons_succ,viewLs]
   rw [viewLs_set (by simpa using h) (by simpa using hj)]
theorem okS_setL {c:Cell} {j k:Nat} {l m:L} {d s:Bool} {e:Nat} (h:k≠j):okS s (c.setL j l d e) k m=okS s c k m:=by
 simp only [okS,Cell.setL,List.length_set,List.getD_eq_getElem?_getD,List.getElem?_set_ne (fun e => h e.symm)]
theorem setL_len (c:Cell) (j:Nat) (l:L) (d:Bool) (e:Nat):(c.setL j l d e).ls.length=c.ls.length:=by simp [Cell.setL]
theorem Wr.comm {p q : Wr} {st st1 st2 : St} (h1 : p.ap st = some st1) (h2 : q.ap st = some st2) (ho : over p.part q.part = false) :
 ∃ st3,q.ap st1=some st3∧p.ap st2=some st3:=by
 cases p with
 | all i c =>
   simp only [ap] at h1
   split at h1
   · rename_i hi
     simp at h1; subst h1
     have hne:∀ i',q.part.1=i'→i≠i':=by
       rintro i' rfl e
       simp [over,part,e] at ho
     have hlen:=len h2
     cases q with
     | all i' c' =>
       simp only [ap] at h2
       split at h2
       · simp at h2; subst h2
         refine ⟨(st.set i c).set i' c',by simp [ap, *], ?_⟩
         simp only [ap,List.length_set,if_pos hi]
         rw [List.set_comm _ _ (hne i' rfl)]
       · cases h2
     | one i' j l d e s =>
       simp only [ap] at h2
       split at h2
       · rename_i c' hc'
         split at h2
         · rename_i hj
           simp at h2; subst h2
           refine ⟨(st.set i c).set i' (c'.setL j l d e), ?_, ?_⟩
           · simp only [ap]
             rw [List.getElem?_set_ne (hne i' rfl),hc']
             simp [hj]
           · simp only [ap, List.length_set, if_pos hi]
             rw [List.set_comm _ _ (hne i' rfl)]
         · cases h2
       · cases h2
   · cases h1
 | one i j l d e s =>
   simp only [ap] at h1
   split at h1
   · rename_i c hc
     split at h1
     · rename_i hj
       simp at h1; subst h1
       cases q with
       | all i' c' =>
         have hne:i≠i':=by
           intro e; simp [over,part,e] at ho
         simp only [ap] at h2
         split at h2
         · rename_i hi
           simp at h2; subst h2
           refine ⟨(st.set i (c.setL j l d e)).set i' c',by simp [ap,hi], ?_⟩
           simp only [ap]
           rw [List.getElem?_set_ne (fun e => hne e.symm),hc]
           simp only [if_pos hj]
           rw [List.set_comm _ _ hne]
         · cases h2
       | one i' j' l' d' e' s' =>
         simp only [ap] at h2
         split at h2
         · rename_i c' hc'
           split at h2
           · rename_i hj'
             simp at h2; subst h2
             by_cases hi:i=i'
             · subst hi
               rw [hc] at hc'
               obtain rfl:=Option.some.inj hc'
               have hne:j≠j':=by
                 intro e
                 subst e
                 have hb:=(over_one (b:=if s' then 1 else 0) ho (by cases s' <;> simp) (by cases s' <;> simp)).2
                 cases s' <;> simp at hb
               have hlt:=get_lt hc
               refine ⟨(st.set i ((c.setL j l d e).setL j' l' d' e')), ?_, ?_⟩
               · simp only [ap]
                 rw [get_set hlt,if_pos rfl]
                 simp only [okS_setL (fun e => hne e.symm),if_pos hj',List.set_set]
               · simp only [ap]
                 rw [get_set hlt,if_pos rfl]
                 simp only [okS_setL hne,if_pos hj,List.set_set]
                 rw [setL_comm hne]
             · refine ⟨(st.set i (c.setL j l d e)).set i' (c'.setL j' l' d' e'), ?_, ?_⟩
               · simp only [ap]
                 rw [List.getElem?_set_ne hi,hc']
                 simp [hj']
               · simp only [ap]
                 rw [List.getElem?_set_ne (fun e => hi e.symm),hc]
                 simp only [if_pos hj]
                 rw [List.set_comm _ _ hi]
           · cases h2
         · cases h2
     · cases h1
   · cases h1
theorem Wr.back {p q:Wr} {st st1 st2:St} (h1:p.ap st=some st1) (h2:q.ap st1=some st2) (ho:over p.part q.part=false):∃ st',q.ap st=some st':=by
 cases q with
 | all i c =>
   simp only [ap] at h2 ⊢
   rw [len h1] at h2
   split at h2
   · exact ⟨_,if_pos (by assumption)⟩
   · cases h2
 | one i j l d e s =>
   rcases near h1 ho with hn | ⟨j',l',d',e',s',c,rfl,_,hb,hc,_,hn⟩
   · simp only [ap] at h2 ⊢
     rw [hn] at h2
     split at h2
     · rename_i c hc
       split at h2
       · rename_i hj
         simp only [hc,if_pos hj]
         exact ⟨_,rfl⟩
       · cases h2
     · cases h2
   · have hne:j≠j':=by
       intro e
       subst e
       have:=(hb (if s then 1 else 0) (by cases s <;> simp) (by cases s <;> simp)).2
       cases s <;> simp at this
     simp only [ap,hn,okS_setL hne] at h2 ⊢
     split at h2
     · rename_i hj
       simp only [hc,if_pos hj]
       exact ⟨_,rfl⟩
     · cases h2
theorem look_back {q : Wr} {st st1 : St} {i : Nat} {c : Cell} (hq : q.ap st = some st1) (hc : st1[i]? = some c) (hf : ∀ r, r ∈ M.viewF i c.ls.length → over q.part r = false) :
 ∃ c0,st[i]?=some c0∧viewLs i 0 c.ls=viewLs i 0 c0.ls∧c.ls.length=c0.ls.length:=by
 rcases Wr.near hq (hf (i,1) (by simp [M.viewF])) with hn | ⟨j,l,d,e,s,c0,hq',_,_,h0,ho,h1⟩
 · exact ⟨c,by rw [← hn]; exact hc,rfl,rfl⟩
 · rw [hc] at h1
   obtain rfl:=Option.some.inj h1
   have hj:=M.okS_lt ho
   have h2:=hf (i,3 * j+4) (by simp only [M.viewF,setL_len,List.mem_cons,List.mem_map,List.mem_range]; exact .inr ⟨j,hj,rfl⟩)
   subst hq'
   obtain ⟨rfl,_⟩:=over_one (b:=2) h2 (by omega) (by omega)
   simp only [okS,Bool.and_eq_true,Bool.not_true,Bool.false_or] at ho
   exact ⟨c0,h0,viewLs_set ho.2 hj,setL_len _ _ _ _ _⟩
theorem look_on {q : Wr} {st st1 : St} {i : Nat} {c : Cell} (hq : q.ap st = some st1) (hc : st[i]? = some c) (hf : ∀ r, r ∈ M.viewF i c.ls.length → over q.part r = false) :
 ∃ c0,st1[i]?=some c0∧viewLs i 0 c0.ls=viewLs i 0 c.ls∧c0.ls.length=c.ls.length:=by
 rcases Wr.near hq (hf (i,1) (by simp [M.viewF])) with hn | ⟨j,l,d,e,s,c0,hq',_,_,h0,ho,h1⟩
 · exact ⟨c,by rw [hn]; exact hc,rfl,rfl⟩
 · rw [hc] at h0
   obtain rfl:=Option.some.inj h0
   have hj:=M.okS_lt ho
   have h2:=hf (i,3 * j+4) (by simp only [M.viewF,List.mem_cons,List.mem_map,List.mem_range]; exact .inr ⟨j,hj,rfl⟩)
   subst hq'
   obtain ⟨rfl,_⟩:=over_one (b:=2) h2 (by omega) (by omega)
   simp only [okS,Bool.and_eq_true,Bool.not_true,Bool.false_or] at ho
   exact ⟨_,h1,viewLs_set ho.2 hj,setL_len _ _ _ _ _⟩
namespace M
variable {α:Type}
theorem exec_wr:∀ (m:M α) {st st':St} {x:α},m.exec st=some (x,st')→aps (m.wr st) st=some st'∧(m.foot st).2=(m.wr st).map Wr.part:=by
 intro m
 induction m with
 | pure a => intro st st' x h; simp only [exec,Option.some.injEq,Prod.mk.injEq] at h; simp [wr,aps,foot,h.2]
 | fail => intro st st' x h; simp [exec] at h
 | must b k ih =>
   intro st st' x h
   cases b with
   | true => exact ih h
   | false => cases h
 | alt b k1 k2 ih1 ih2 =>
   intro st st' x h
   cases b with
   | true => exact ih1 h
   | false => exact ih2 h
 | ext β o k ih =>
   intro st st' x h
   cases o with
   | none => cases h
   | some y => exact ih y h
 | get i k ih =>
   intro st st' x h
   simp only [exec] at h
   split at h
   · rename_i c hc
     simp only [wr,foot,hc]
     exact ih _ h
   · cases h
 | head i k ih =>
   intro st st' x h
   simp only [exec] at h
   split at h
   · rename_i c hc
     simp only [wr,foot,hc]
     exact ih _ h
   · cases h
 | leaf i j k ih =>
   intro st st' x h
   simp only [exec] at h
   split at h
   · rename_i c hc
     split at h
     · rename_i l hl
       simp only [wr,foot,hc,hl]
       exact ih _ _ _ h
     · cases h
   · cases h
 | set i c k ih =>
   intro st st' x h
   simp only [exec] at h
   split at h
   · rename_i hi
     obtain ⟨h1,h2⟩:=ih h
     simp only [wr,foot,aps,Wr.ap,if_pos hi,Option.bind_some,List.map_cons,h2]
     exact ⟨h1,rfl⟩
   · cases h
 | view i k ih =>
   intro st st' x h
   simp only [exec] at h
   split at h
   · rename_i c hc
     simp only [wr,foot,hc]
     exact ih _ h
   · cases h
 | setL i j l d e s k ih =>
   intro st st' x h
   simp only [exec] at h
   split at h
   · rename_i c hc
     split at h
     · rename_i hj
       obtain ⟨h1,h2⟩:=ih h
       simp only [wr,foot,hc,aps,Wr.ap,if_pos hj,Option.bind_some,List.map_cons,h2]
       exact ⟨h1,rfl⟩
     · cases h
   · cases h
def free (p:Nat × Nat) (f:List (Nat × Nat) × List (Nat × Nat)):Prop:=∀ r,r∈f.1∨r∈f.2→over p r=false
theorem pull : ∀ (m : M α) {q : Wr} {st st1 st2 : St} {x : α}, q.ap st = some st1 → m.exec st1 = some (x, st2) → free q.part (m.foot st1) →
 m.foot st=m.foot st1∧m.wr st=m.wr st1∧∃ st',m.exec st=some (x,st')∧q.ap st'=some st2:=by
 intro m
 induction m with
 | pure a =>
   intro q st st1 st2 x hq h _
   simp only [exec,Option.some.injEq,Prod.mk.injEq] at h
   obtain ⟨rfl,rfl⟩:=h
   exact ⟨rfl,rfl,st,rfl,hq⟩
 | fail => intro q st st1 st2 x _ h; simp [exec] at h
 | must b k ih =>
   intro q st st1 st2 x hq h hf
   cases b with
   | true => exact ih hq h hf
   | false => cases h
 | alt b k1 k2 ih1 ih2 =>
   intro q st st1 st2 x hq h hf
   cases b with
   | true => exact ih1 hq h hf
   | false => exact ih2 hq h hf
 | ext β o k ih =>
   intro q st st1 st2 x hq h hf
   cases o with
   | none => cases h
   | some y => exact ih y hq h hf
 | get i k ih =>
   intro q st st1 st2 x hq h hf
   simp only [exec] at h
   split at h
   · rename_i c hc
     have hf':free q.part ((k c).foot st1):=fun r hr => hf r (by simp only [foot,hc]; exact hr.imp (List.mem_cons_of_mem _) id)
     have ho:=hf (i,0) (.inl (by simp [foot,hc]))
     have hi:st[i]?=some c:=by
       rcases Wr.near hq ho with hn | ⟨_,_,_,_,_,_,_,h0,_⟩
       · rw [← hn]; exact hc
       · exact absurd rfl h0
     simp only [foot,wr,exec,hi,hc]
     obtain ⟨h1,h2,h3⟩:=ih c hq h hf'
     exact ⟨by rw [h1],h2,h3⟩
   · cases h
 | head i k ih =>
   intro q st st1 st2 x hq h hf
   simp only [exec] at h
   split at h
   · rename_i c hc
     have hf':free q.part ((k c.hd).foot st1):=fun r hr => hf r (by simp only [foot,hc]; exact hr.imp (List.mem_cons_of_mem _) id)
     have ho:=hf (i,1) (.inl (by simp [foot,hc]))
     obtain ⟨c0,hi,hh⟩:∃ c0,st[i]?=some c0∧c.hd=c0.hd:=by
        rcases Wr.near hq ho with hn | ⟨j,l,d,e,_,c0,_,_,_,h0,_,h1⟩
        · exact ⟨c,by rw [← hn]; exact hc,rfl⟩
        · rw [hc] at h1
          obtain rfl:=Option.some.inj h1
          exact ⟨c0,h0,setL_hd _ _ _ _ _⟩
     rw [hh] at h hf'
     simp only [foot,wr,exec,hi,hc,hh]
     obtain ⟨h1,h2,h3⟩:=ih c0.hd hq h hf'
     exact ⟨by rw [h1],h2,h3⟩
   · cases h
 | leaf i j k ih =>
   intro q st st1 st2 x hq h hf
   simp only [exec] at h
   split at h
   · rename_i c hc
     split at h
     · rename_i l hl
       have hf':free q.part ((k l (c.ds.testBit j) (esAt c.es j)).foot st1):=fun r hr => hf r (by simp only [foot,hc,hl]; exact hr.imp (List.mem_cons_of_mem _) id)
       have ho:=hf (i,3 * j+2) (.inl (by simp [foot,hc,hl]))
       obtain ⟨c0,hi,hl0,hd,he⟩:∃ c0,st[i]?=some c0∧c0.ls[j]?=some l∧c.ds.testBit j=c0.ds.testBit j∧esAt c.es j=esAt c0.es j:=by
        rcases Wr.near hq ho with hn | ⟨j',l',d,e,_,c0,_,_,hj,h0,_,h1⟩
        · exact ⟨c,by rw [← hn]; exact hc,hl,rfl,rfl⟩
        · rw [hc] at h1
          obtain rfl:=Option.some.inj h1
          obtain ⟨g1,g2,g3⟩:=setL_leaf (c:=c0) (l:=l') (d:=d) (e:=e) (show j≠j' by
           intro e
           have:=(hj 0 (by omega) (by omega)).2
           omega)
          exact ⟨c0,h0,by rw [← g1]; exact hl,g2,g3⟩
       rw [hd,he] at h hf'
       simp only [foot,wr,exec,hi,hc,hl,hl0,hd,he]
       obtain ⟨h1,h2,h3⟩:=ih l _ _ hq h hf'
       exact ⟨by rw [h1],h2,h3⟩
     · cases h
   · cases h
 | view i k ih =>
   intro q st st1 st2 x hq h hf
   simp only [exec] at h
   split at h
   · rename_i c hc
     have hf':free q.part ((k (viewLs i 0 c.ls)).foot st1):=fun r hr => hf r (by simp only [foot,hc]; exact hr.imp (List.mem_append_right _) id)
     obtain ⟨c0,hi,hh,hn⟩:=look_back hq hc fun r hr => hf r (.inl (by simp only [foot,hc]; exact List.mem_append_left _ hr))
     rw [hh] at h hf'
     simp only [foot,wr,exec,hi,hc,hh,hn]
     obtain ⟨h1,h2,h3⟩:=ih _ hq h hf'
     exact ⟨by rw [h1],h2,h3⟩
   · cases h
 | set i c k ih =>
   intro q st st1 st2 x hq h hf
   simp only [exec] at h
   split at h
   · rename_i hi
     have hf':free q.part (k.foot (st1.set i c)):=fun r hr => hf r (by simp only [foot]; exact hr.imp id (List.mem_cons_of_mem _))
     have ho:=hf (i,0) (.inr (by simp [foot]))
     have hi':i<st.length:=by rw [← Wr.len hq]; exact hi
     have hw:(Wr.all i c).ap st=some (st.set i c):=if_pos hi'
     obtain ⟨st3,g1,g2⟩:=Wr.comm hq hw ho
     simp only [Wr.ap,if_pos hi,Option.some.injEq] at g1
     subst g1
     obtain ⟨h1,h2,h3⟩:=ih g2 h hf'
     simp only [foot,wr,exec,if_pos hi',h1,h2]
     exact ⟨trivial,trivial,h3⟩
   · cases h
 | setL i j l d e s k ih =>
   intro q st st1 st2 x hq h hf
   simp only [exec] at h
   split at h
   · rename_i c hc
     split at h
     · rename_i hj
       have hf':free q.part (k.foot (st1.set i (c.setL j l d e))):=fun r hr => hf r (by simp only [foot,hc]; exact hr.imp id (List.mem_cons_of_mem _))
       have ho:=hf (i,if s then 3 * j+3 else 3 * j+2) (.inr (by simp [foot,hc]))
       have hw1:(Wr.one i j l d e s).ap st1=some (st1.set i (c.setL j l d e)):=by simp only [Wr.ap,hc,if_pos hj]
       obtain ⟨st',hw⟩:=Wr.back hq hw1 ho
       obtain ⟨st3,g1,g2⟩:=Wr.comm hq hw ho
       rw [hw1] at g1
       obtain rfl:=Option.some.inj g1
       obtain ⟨h1,h2,h3⟩:=ih g2 h hf'
       simp only [Wr.ap] at hw
       split at hw
       · rename_i c0 hc0
         split at hw
         · rename_i hj0
           simp at hw; subst hw
           simp only [foot,wr,exec,hc0,hc,if_pos hj0,h1,h2]
           exact ⟨trivial,trivial,h3⟩
         · cases hw
       · cases hw
     · cases h
   · cases h
theorem push : ∀ (m : M α) {q : Wr} {st st1 st' : St} {x : α}, q.ap st = some st1 → m.exec st = some (x, st') → free q.part (m.foot st) →
 m.foot st1=m.foot st∧m.wr st1=m.wr st∧∃ st2,m.exec st1=some (x,st2)∧q.ap st'=some st2:=by
 intro m
 induction m with
 | pure a =>
   intro q st st1 st' x hq h _
   simp only [exec,Option.some.injEq,Prod.mk.injEq] at h
   obtain ⟨rfl,rfl⟩:=h
   exact ⟨rfl,rfl,st1,rfl,hq⟩
 | fail => intro q st st1 st2 x _ h; simp [exec] at h
 | must b k ih =>
   intro q st st1 st2 x hq h hf
   cases b with
   | true => exact ih hq h hf
   | false => cases h
 | alt b k1 k2 ih1 ih2 =>
   intro q st st1 st2 x hq h hf
   cases b with
   | true => exact ih1 hq h hf
   | false => exact ih2 hq h hf
 | ext β o k ih =>
   intro q st st1 st2 x hq h hf
   cases o with
   | none => cases h
   | some y => exact ih y hq h hf
 | get i k ih =>
   intro q st st1 st2 x hq h hf
   simp only [exec] at h
   split at h
   · rename_i c hc
     have hf':free q.part ((k c).foot st):=fun r hr => hf r (by simp only [foot,hc]; exact hr.imp (List.mem_cons_of_mem _) id)
     have ho:=hf (i,0) (.inl (by simp [foot,hc]))
     have hi:st1[i]?=some c:=by
       rcases Wr.near hq ho with hn | ⟨_,_,_,_,_,_,_,h0,_⟩
       · rw [hn]; exact hc
       · exact absurd rfl h0
     simp only [foot,wr,exec,hi,hc]
     obtain ⟨h1,h2,h3⟩:=ih c hq h hf'
     exact ⟨by rw [h1],h2,h3⟩
   · cases h
 | head i k ih =>
   intro q st st1 st2 x hq h hf
   simp only [exec] at h
   split at h
   · rename_i c hc
     have hf':free q.part ((k c.hd).foot st):=fun r hr => hf r (by simp only [foot,hc]; exact hr.imp (List.mem_cons_of_mem _) id)
     have ho:=hf (i,1) (.inl (by simp [foot,hc]))
     obtain ⟨c0,hi,hh⟩:∃ c0,st1[i]?=some c0∧c0.hd=c.hd:=by
        rcases Wr.near hq ho with hn | ⟨j,l,d,e,_,c0,_,_,_,h0,_,h1⟩
        · exact ⟨c,by rw [hn]; exact hc,rfl⟩
        · rw [hc] at h0
          obtain rfl:=Option.some.inj h0
          exact ⟨_,h1,setL_hd _ _ _ _ _⟩
     simp only [foot,wr,exec,hi,hc,hh]
     obtain ⟨h1,h2,h3⟩:=ih c.hd hq h hf'
     exact ⟨by rw [h1],h2,h3⟩
   · cases h
 | leaf i j k ih =>
   intro q st st1 st2 x hq h hf
   simp only [exec] at h
   split at h
   · rename_i c hc
     split at h
     · rename_i l hl
       have hf':free q.part ((k l (c.ds.testBit j) (esAt c.es j)).foot st):=fun r hr => hf r (by simp only [foot,hc,hl]; exact hr.imp (List.mem_cons_of_mem _) id)
       have ho:=hf (i,3 * j+2) (.inl (by simp [foot,hc,hl]))
       obtain ⟨c0,hi,hl0,hd,he⟩:∃ c0,st1[i]?=some c0∧c0.ls[j]?=some l∧c0.ds.testBit j=c.ds.testBit j∧esAt c0.es j=esAt c.es j:=by
        rcases Wr.near hq ho with hn | ⟨j',l',d,e,_,c0,_,_,hj,h0,_,h1⟩
        · exact ⟨c,by rw [hn]; exact hc,hl,rfl,rfl⟩
        · rw [hc] at h0
          obtain rfl:=Option.some.inj h0
          obtain ⟨g1,g2,g3⟩:=setL_leaf (c:=c) (l:=l') (d:=d) (e:=e) (show j≠j' by
           intro e
           have:=(hj 0 (by omega) (by omega)).2
           omega)
          exact ⟨_,h1,by rw [g1]; exact hl,g2,g3⟩
       simp only [foot,wr,exec,hi,hc,hl,hl0,hd,he]
       obtain ⟨h1,h2,h3⟩:=ih l _ _ hq h hf'
       exact ⟨by rw [h1],h2,h3⟩
     · cases h
   · cases h
 | view i k ih =>
   intro q st st1 st2 x hq h hf
   simp only [exec] at h
   split at h
   · rename_i c hc
     have hf':free q.part ((k (viewLs i 0 c.ls)).foot st):=fun r hr => hf r (by simp only [foot,hc]; exact hr.imp (List.mem_append_right _) id)
     obtain ⟨c0,hi,hh,hn⟩:=look_on hq hc fun r hr => hf r (.inl (by simp only [foot,hc]; exact List.mem_append_left _ hr))
     simp only [foot,wr,exec,hi,hc,hh,hn]
     obtain ⟨h1,h2,h3⟩:=ih _ hq h hf'
     exact ⟨by rw [h1],h2,h3⟩
   · cases h
 | set i c k ih =>
   intro q st st1 st2 x hq h hf
   simp only [exec] at h
   split at h
   · rename_i hi
     have hf':free q.part (k.foot (st.set i c)):=fun r hr => hf r (by simp only [foot]; exact hr.imp id (List.mem_cons_of_mem _))
     have ho:=hf (i,0) (.inr (by simp [foot]))
     have hi':i<st1.length:=by rw [Wr.len hq]; exact hi
     have hw:(Wr.all i c).ap st=some (st.set i c):=if_pos hi
     obtain ⟨st3,g1,g2⟩:=Wr.comm hq hw ho
     simp only [Wr.ap,if_pos hi',Option.some.injEq] at g1
     subst g1
     obtain ⟨h1,h2,h3⟩:=ih g2 h hf'
     simp only [foot,wr,exec,if_pos hi',h1,h2]
     exact ⟨trivial,trivial,h3⟩
   · cases h
 | setL i j l d e s k ih =>
   intro q st st1 st2 x hq h hf
   simp only [exec] at h
   split at h
   · rename_i c hc
     split at h
     · rename_i hj
       have hf':free q.part (k.foot (st.set i (c.setL j l d e))):=fun r hr => hf r (by simp only [foot,hc]; exact hr.imp id (List.mem_cons_of_mem _))
       have ho:=hf (i,if s then 3 * j+3 else 3 * j+2) (.inr (by simp [foot,hc]))
       have hw:(Wr.one i j l d e s).ap st=some (st.set i (c.setL j l d e)):=by simp only [Wr.ap,hc,if_pos hj]
       obtain ⟨st3,g1,g2⟩:=Wr.comm hq hw ho
       obtain ⟨h1,h2,h3⟩:=ih g2 h hf'
       simp only [Wr.ap] at g1
       split at g1
       · rename_i c0 hc0
         split at g1
         · rename_i hj0
           simp at g1; subst g1
           simp only [foot,wr,exec,hc0,hc,if_pos hj0,h1,h2]
           exact ⟨trivial,trivial,h3⟩
         · cases g1
       · cases g1
     · cases h
   · cases h
theorem pulls (m : M α) : ∀ {qs : List Wr} {st st1 st2 : St} {x : α}, aps qs st = some st1 → m.exec st1 = some (x, st2) → (∀ q, q ∈ qs → free q.part (m.foot st1)) →
 m.foot st=m.foot st1∧m.wr st=m.wr st1∧∃ st',m.exec st=some (x,st')∧aps qs st'=some st2
 | [],st,st1,st2,x,hq,h,_ => by
   simp only [aps,Option.some.injEq] at hq
   subst hq
   exact ⟨rfl,rfl,st2,h,rfl⟩
 | q::qs,st,st1,st2,x,hq,h,hf => by
   simp only [aps] at hq
   obtain ⟨s,h1,h2⟩:=Option.bind_eq_some_iff.1 hq
   obtain ⟨g1,g2,s',g3,g4⟩:=pulls m h2 h fun q hq => hf q (List.mem_cons_of_mem _ hq)
   obtain ⟨k1,k2,s2,k3,k4⟩:=pull m h1 g3 (by rw [g1]; exact hf q (by simp))
   exact ⟨k1.trans g1,k2.trans g2,s2,k3,by simp only [aps,k4,Option.bind_some,g4]⟩
theorem pushs (m : M α) : ∀ {qs : List Wr} {st st1 st' : St} {x : α}, aps qs st = some st1 → m.exec st = some (x, st') → (∀ q, q ∈ qs → free q.part (m.foot st)) →
 m.foot st1=m.foot st∧∃ st2,m.exec st1=some (x,st2)∧aps qs st'=some st2
 | [],st,st1,st',x,hq,h,_ => by
   simp only [aps,Option.some.injEq] at hq
   subst hq
   exact ⟨rfl,st',h,rfl⟩
 | q::qs,st,st1,st',x,hq,h,hf => by
   simp only [aps] at hq
   obtain ⟨s,h1,h2⟩:=Option.bind_eq_some_iff.1 hq
   obtain ⟨k1,k2,s2,k3,k4⟩:=push m h1 h (hf q (by simp))
   obtain ⟨g1,s3,g3,g4⟩:=pushs m h2 k3 fun q hq => by rw [k1]; exact hf q (List.mem_cons_of_mem _ hq)
   exact ⟨g1.trans k1,s3,g3,by simp only [aps,k4,Option.bind_some,g4]⟩
theorem swap {β : Type} {m : M α} {n : M β} {st st1 st2 : St} {x : α} {y : β} (h1 : m.exec st = some (x, st1)) (h2 : n.exec st1 = some (y, st2)) (hc : clash (m.foot st) (n.foot st1) = false) :
 ∃ st',n.exec st=some (y,st')∧m.exec st'=some (x,st2)∧n.foot st=n.foot st1∧m.foot st'=m.foot st:=by
 obtain ⟨w1,w2⟩:=exec_wr m h1
 obtain ⟨v1,v2⟩:=exec_wr n h2
 simp only [clash,Bool.or_eq_false_iff,List.any_eq_false,Bool.not_eq_true] at hc
 obtain ⟨c1,c2⟩:=hc
 have hf:∀ q,q∈m.wr st→free q.part (n.foot st1):=by
  intro q hq r hr
  have hm:q.part∈(m.foot st).2:=by rw [w2]; exact List.mem_map_of_mem hq
  obtain ⟨d1,d2⟩:=c1 _ hm
  rcases hr with hr | hr
  · exact d1 r hr
  · exact d2 r hr
 obtain ⟨p1,p2,st',p3,p4⟩:=pulls n w1 h2 hf
 obtain ⟨u1,u2⟩:=exec_wr n p3
 have hf':∀ q,q∈n.wr st→free q.part (m.foot st):=by
  intro q hq r hr
  have hm:q.part∈(n.foot st1).2:=by rw [v2,← p2]; exact List.mem_map_of_mem hq
  rcases hr with hr | hr
  · exact c2 _ hm r hr
  · have hq2 := c1 r hr
    rw [over_comm]
    exact hq2.2 _ hm
 obtain ⟨t1,st3,t2,t3⟩:=pushs m u1 h1 hf'
 rw [p2,v1] at t3
 obtain rfl:=Option.some.inj t3
 exact ⟨st',p3,t2,p1,t1⟩
end M
end GoV

/- Leaves: a stretch of a slice, an element's leaf, operands, places. -/
namespace GoV
open Go

theorem cut_get {α:Type} {lo j:Nat} {q:Option Nat} {l:List α} {x:α} (h:(cut (some (lo,q)) l)[j]?=some x):l[lo+j]?=some x∧j<q.getD (l.length - lo):=by
 cases q with
 | none =>
   simp only [cut,List.getElem?_drop] at h
   have:=get_lt h
   exact ⟨h,by simp; omega⟩
 | some n =>
   simp only [cut,List.getElem?_take] at h
   split at h
   · rw [List.getElem?_drop] at h; exact ⟨h,by assumption⟩
   · cases h
theorem cut_length {α:Type} {lo:Nat} {q:Option Nat} {l:List α} (h:lo+q.getD (l.length - lo)≤l.length):(cut (some (lo,q)) l).length=q.getD (l.length - lo):=by
 cases q with
 | none => simp [cut]
 | some n =>
   simp only [Option.getD_some] at *
   simp only [cut,List.length_take,List.length_drop]
   omega
theorem addr_shift {o o' lo j s C n:Nat} (h:lo<C→o'=o+lo * s) (hn:j<n) (hc:lo+n≤C):o'+j * s=o+(lo+j) * s:=by
 rw [h (by omega),Nat.add_mul]
 omega
theorem plainA {lo sz C : Nat} {A A' : Option Addr} (hA : A = none ∨ ∃ b o, A = some ⟨b, o, none⟩)
 (h:(A=none∧A'=none)∨(lo=0∧A'=A)∨∃ b o o',A=some ⟨b,o,none⟩∧A'=some ⟨b,o',none⟩∧(lo<C→o'=o+lo * sz)∧o≤o'∧o'≤o+C * sz) :
 (A=none∧A'=none)∨∃ b o o',A=some ⟨b,o,none⟩∧A'=some ⟨b,o',none⟩∧(lo<C→o'=o+lo * sz)∧o≤o'∧o'≤o+C * sz:=by
 rcases h with h | ⟨rfl,rfl⟩ | h
 · exact .inl h
 · rcases hA with rfl | ⟨b, o, rfl⟩
   · exact .inl ⟨rfl,rfl⟩
   · exact .inr ⟨b,o,o,rfl,rfl,fun _ => by omega,Nat.le_refl _,Nat.le_add_right _ _⟩
 · exact .inr h
theorem RepF.cut {F : FS} {w : World} {t : Ty} {x : List t.C} {rg : Option (Nat × Option Nat)} {hv u : Value} (h : RepF F w (.sl t) x (fun _ => hv)) (hr : Resl t.size rg x.length hv u) :
 RepF F w (.sl t) (cut rg x) (fun _ => u):=by
 cases rg with
 | none => simp only [Resl] at hr; subst hr; exact h
 | some q =>
   obtain ⟨lo,q⟩:=q
   obtain ⟨n,rfl,h1,A,C,rfl,hN,A',rfl,hA⟩:=hr
   simp only [RepF] at h ⊢
   obtain ⟨A1,c1,g1,g2,g3⟩:=h
   simp only [Value.slice.injEq] at g1
   obtain ⟨rfl,_,rfl⟩:=g1
   refine ⟨A',C - lo,by rw [cut_length h1],by rw [cut_length h1]; omega, ?_⟩
   rcases g3 with rfl | ⟨b,o,hAb,he⟩
   · exact .inl (by cases q <;> simp [GoV.cut])
   · replace hA := plainA (.inr ⟨b, o, hAb⟩) hA
     rcases hA with ⟨rfl,_⟩ | ⟨b1,o1,o',hA1,rfl,ho,_⟩
     · cases hAb
     · rw [hAb] at hA1
       simp only [Option.some.injEq,Addr.mk.injEq] at hA1
       obtain ⟨rfl,rfl,_⟩:=hA1
       refine .inr ⟨b,o',rfl,fun j y hy => ?_⟩
       obtain ⟨hy,hj⟩:=cut_get hy
       rw [addr_shift ho hj (by omega)]
       exact he _ _ hy
theorem LRep.cut {F : FS} {w : World} {o : Fl} {t : Ty} {x : List t.C} {S : BS} {rg : Option (Nat × Option Nat)} {hv u : Value} (h : LRep F w (.d o (.sl t) x) hv S) (hr : Resl t.size rg x.length hv u) :
 LRep F w (.d (cutFl rg o) (.sl t) (cut rg x)) u S:=by
 cases rg with
 | none => simp only [Resl] at hr; subst hr; cases o <;> exact h
 | some q =>
 obtain ⟨lo,q⟩:=q
 have hr0:=hr
 obtain ⟨n,rfl,h1,A,C,rfl,hN,A',rfl,hA⟩:=hr
 have hlen:(GoV.cut (some (lo,q)) x).length=q.getD (x.length - lo):=cut_length h1
 cases o with
 | fro =>
   cases h with
   | d _ _ _ _ h2 => exact CRep.sl (RepF.cut h2 hr0)
 | frt =>
   cases q with
   | some n => exact CRep.sl (RepF.cut h.1 hr0)
   | none =>
   refine ⟨RepF.cut h.1 hr0,A',C - lo,by rw [hlen], ?_⟩
   simp only [Option.getD_none] at *
   obtain ⟨A1,c1,g1,g3⟩:=h.2
   simp only [Value.slice.injEq] at g1
   obtain ⟨rfl,_,rfl⟩:=g1
   rcases g3 with ⟨rfl,rfl⟩ | ⟨b,q,arr,hAb,hS,hk,hs,ht⟩
   · replace hA := plainA (.inl rfl) hA
     rcases hA with ⟨_,rfl⟩ | ⟨_,_,_,hA,_⟩
     · exact .inl ⟨rfl,by omega⟩
     · cases hA
   · replace hA := plainA (.inr ⟨b, q, hAb⟩) hA
     rcases hA with ⟨rfl,_⟩ | ⟨b1,o1,o',hA1,rfl,ho,ho1,ho2⟩
     · cases hAb
     · rw [hAb] at hA1
       simp only [Option.some.injEq,Addr.mk.injEq] at hA1
       obtain ⟨rfl,rfl,_⟩:=hA1
       refine .inr ⟨b,o',arr,rfl,hS,hk, ?_,fun hlt i hi => ?_⟩
       · rcases Nat.lt_or_ge lo C with hlo | hlo
         · rw [ho hlo]
           have:C * t.size=lo * t.size+(C - lo) * t.size:=by rw [← Nat.add_mul]; congr 1; omega
           omega
         · simp [show C - lo=0 by omega]; omega
       · rw [hlen] at hlt
         have h2:=ht (by omega) i hi
         rw [hlen]
         rw [ho (by omega)]
         have:x.length * t.size=lo * t.size+(x.length - lo) * t.size:=by rw [← Nat.add_mul]; congr 1; omega
         omega
 | sha =>
   obtain ⟨⟨A1,c1,g1,g2,g3⟩,hn⟩:=h
   simp only [Value.slice.injEq] at g1
   obtain ⟨rfl,_,rfl⟩:=g1
   refine ⟨⟨A',C - lo,by rw [hlen],by rw [hlen]; omega, ?_⟩,hn⟩
   rcases g3 with ⟨rfl,rfl⟩ | ⟨b,q,arr,hAb,hS,hk,hs,he⟩
   · replace hA := plainA (.inl rfl) hA
     rcases hA with ⟨_,rfl⟩ | ⟨_,_,_,hA,_⟩
     · exact .inl ⟨rfl,by omega⟩
     · cases hA
   · replace hA := plainA (.inr ⟨b, q, hAb⟩) hA
     rcases hA with ⟨rfl,_⟩ | ⟨b1,o1,o',hA1,rfl,ho,ho1,ho2⟩
     · cases hAb
     · rw [hAb] at hA1
       simp only [Option.some.injEq,Addr.mk.injEq] at hA1
       obtain ⟨rfl,rfl,_⟩:=hA1
       refine .inr ⟨b,o',arr,rfl,hS,hk, ?_,fun j y hy => ?_⟩
       · rcases Nat.lt_or_ge lo C with hlo | hlo
         · rw [ho hlo]
           have:C * t.size=lo * t.size+(C - lo) * t.size:=by rw [← Nat.add_mul]; congr 1; omega
           omega
         · simp [show C - lo=0 by omega]; omega
       · obtain ⟨hy, hj⟩ := cut_get hy
         rw [addr_shift ho hj (by omega)]
         exact he _ _ hy
 | jnk jl jh =>
   obtain ⟨h,hn⟩:=h
   obtain ⟨A1,c1,g1,g2,g3⟩:=h
   simp only [Value.slice.injEq] at g1
   obtain ⟨rfl,_,rfl⟩:=g1
   refine ⟨⟨A',C - lo,by rw [hlen],by rw [hlen]; omega, ?_⟩,hn⟩
   rcases g3 with ⟨rfl,rfl⟩ | ⟨b,q,arr,hAb,hS,hk,hs,Ss,hs1,hs2,he⟩
   · replace hA := plainA (.inl rfl) hA
     rcases hA with ⟨_,rfl⟩ | ⟨_,_,_,hA,_⟩
     · exact .inl ⟨rfl,by omega⟩
     · cases hA
   · replace hA := plainA (.inr ⟨b, q, hAb⟩) hA
     rcases hA with ⟨rfl,_⟩ | ⟨b1,o1,o',hA1,rfl,ho,ho1,ho2⟩
     · cases hAb
     · rw [hAb] at hA1
       simp only [Option.some.injEq,Addr.mk.injEq] at hA1
       obtain ⟨rfl,rfl,_⟩:=hA1
       refine .inr ⟨b,o',arr,rfl,hS,hk, ?_,fun j => Ss (lo+j),fun j => hs1 _,fun j j' y hne g1 g2 => hs2 _ _ _ (by omega) (by omega) (by omega),fun j y hy => ?_⟩
       · rcases Nat.lt_or_ge lo C with hlo | hlo
         · rw [ho hlo]
           have:C * t.size=lo * t.size+(C - lo) * t.size:=by rw [← Nat.add_mul]; congr 1; omega
           omega
         · simp [show C - lo=0 by omega]; omega
       · obtain ⟨hy, hj⟩ := cut_get hy
         rw [addr_shift ho hj (by omega)]
         exact he _ _ hy
 | deep =>
   obtain ⟨h,hn⟩:=h
   simp only [RepD] at h
   obtain ⟨A1,c1,g1,g2,g3⟩:=h
   simp only [Value.slice.injEq] at g1
   obtain ⟨rfl,_,rfl⟩:=g1
   refine ⟨⟨A',C - lo,by rw [hlen],by rw [hlen]; omega, ?_⟩,hn⟩
   rcases g3 with ⟨rfl,rfl⟩ | ⟨b,q,arr,hAb,hS,hk,hs,Ss,hs1,hs2,he⟩
   · replace hA := plainA (.inl rfl) hA
     rcases hA with ⟨_,rfl⟩ | ⟨_,_,_,hA,_⟩
     · exact .inl ⟨rfl,by omega⟩
     · cases hA
   · replace hA := plainA (.inr ⟨b, q, hAb⟩) hA
     rcases hA with ⟨rfl,_⟩ | ⟨b1,o1,o',hA1,rfl,ho,ho1,ho2⟩
     · cases hAb
     · rw [hAb] at hA1
       simp only [Option.some.injEq,Addr.mk.injEq] at hA1
       obtain ⟨rfl,rfl,_⟩:=hA1
       refine .inr ⟨b,o',arr,rfl,hS,hk, ?_,fun j => Ss (lo+j),fun j => hs1 _,fun j j' y hne => hs2 _ _ _ (by omega),fun j y hy => ?_⟩
       · rcases Nat.lt_or_ge lo C with hlo | hlo
         · rw [ho hlo]
           have:C * t.size=lo * t.size+(C - lo) * t.size:=by rw [← Nat.add_mul]; congr 1; omega
           omega
         · simp [show C - lo=0 by omega]; omega
       · obtain ⟨hy, hj⟩ := cut_get hy
         rw [addr_shift ho hj (by omega)]
         exact he _ _ hy
end GoV

/- Operands and places: what reading, sharing and taking away mean for the machine. -/
namespace GoV
open Go

theorem RepF.getL {F : FS} {w : World} {fl : Fl} : ∀ {T : Ty} {x : T.C} {cs : Nat → Value} {i : Nat} {o : Fl} {t : Ty} {y : List t.C},
 RepF F w T x cs→T.getL fl x i=some (.d o (.sl t) y)→RepF F w (.sl t) y (fun _ => cs i):=by
 intro T
 induction T with
 | int k => intro x cs i o t y _ h; cases i <;> simp [Ty.getL] at h
 | bool => intro x cs i o t y _ h; cases i <;> simp [Ty.getL] at h
 | sl t0 =>
   intro x cs i o t y hr h
   cases i with
   | zero =>
     simp only [Ty.getL,Option.some.injEq,L.d.injEq,Ty.sl.injEq] at h
     obtain ⟨rfl,rfl,h⟩:=h
     cases h
     exact hr
   | succ i => simp [Ty.getL] at h
 | pair a b iha ihb =>
   intro x cs i o t y hr h
   simp only [Ty.getL] at h
   split at h
   · exact iha hr.1 h
   · have := ihb hr.2 h
     rwa [show a.size+(i - a.size)=i by omega] at this
 | unit => intro x cs i o t y _ h; cases i <;> simp [Ty.getL] at h
theorem RepD.getL {w : World} {fl : Fl} : ∀ {T : Ty} {x : T.C} {cs : Nat → Value} {S : BS} {i : Nat} {o : Fl} {t : Ty} {y : List t.C},
 RepD w T x cs S→T.getL fl x i=some (.d o (.sl t) y)→RepD w (.sl t) y (fun _ => cs i) S:=by
 intro T
 induction T with
 | int k => intro x cs S i o t y _ h; cases i <;> simp [Ty.getL] at h
 | bool => intro x cs S i o t y _ h; cases i <;> simp [Ty.getL] at h
 | sl t0 =>
   intro x cs S i o t y hr h
   cases i with
   | zero =>
     simp only [Ty.getL,Option.some.injEq,L.d.injEq,Ty.sl.injEq] at h
     obtain ⟨rfl,rfl,h⟩:=h
     cases h
     exact hr
   | succ i => simp [Ty.getL] at h
 | pair a b iha ihb =>
   intro x cs S i o t y hr h
   simp only [Ty.getL] at h
   simp only [RepD] at hr
   obtain ⟨Sa,Sb,h1,h2,h3,ha,hb⟩:=hr
   split at h
   · exact (iha ha h).up h1
   · have := (ihb hb h).up h2
     rwa [show a.size+(i - a.size)=i by omega] at this
 | unit => intro x cs S i o t y _ h; cases i <;> simp [Ty.getL] at h

def OL (st:St) (vals:VS) (B:Nat→Nat) (F:FS) (w:World) (l:L) (u:Value):Prop:=LRep F w l u (fun _ => False)∧LinkOK st vals B w l u
def Ols (st : St) (vals : VS) (B : Nat → Nat) (F : FS) (w : World) : List L → List Value → Prop
 | [],[] => True
 | l::ls,u::us => OL st vals B F w l u∧Ols st vals B F w ls us
 | _,_ => False
theorem Ols.length {st : St} {vals : VS} {B : Nat → Nat} {F : FS} {w : World} : ∀ {ls : List L} {us : List Value}, Ols st vals B F w ls us → us.length = ls.length
 | [],[],_ => rfl
 | _::_,_::_,h => by simp [Ols.length h.2]
 | [],_::_,h => h.elim
 | _::_,[],h => h.elim
theorem Ols.get {st : St} {vals : VS} {B : Nat → Nat} {F : FS} {w : World} : ∀ {ls : List L} {us : List Value} {k : Nat} {l : L} {u : Value}, Ols st vals B F w ls us → ls[k]? = some l → us[k]? = some u → OL st vals B F w l u
 | l::ls,u::us,0,_,_,h,h1,h2 => by
   simp at h1 h2
   subst h1; subst h2
   exact h.1
 | l::ls,u::us,k+1,_,_,h,h1,h2 => Ols.get h.2 (by simpa using h1) (by simpa using h2)
 | [],_,_,_,_,_,h1,_ => by simp at h1
 | _::_,[],_,_,_,h,_,_ => h.elim
theorem Ols.of {st : St} {vals : VS} {B : Nat → Nat} {F : FS} {w : World} : ∀ {ls : List L} {us : List Value}, us.length = ls.length → (∀ (k : Nat) (l : L) (u : Value), ls[k]? = some l → us[k]? = some u → OL st vals B F w l u) → Ols st vals B F w ls us
 | [],[],_,_ => trivial
 | l::ls,u::us,hl,h => ⟨h 0 l u rfl rfl,Ols.of (by simpa using hl) fun k l' u' h1 h2 => h (k+1) l' u' (by simpa using h1) (by simpa using h2)⟩
 | [],_::_,hl,_ => by simp at hl
 | _::_,[],hl,_ => by simp at hl
theorem viewLs_length (t : Nat) : ∀ (k : Nat) (ls : List L), (viewLs t k ls).length = ls.length
 | _,[] => rfl
 | k,_::r => by simp [viewLs,viewLs_length t (k+1) r]
theorem viewLs_get (t : Nat) : ∀ (k : Nat) (ls : List L) (j : Nat), (viewLs t k ls)[j]? = ls[j]?.map (viewL t (k + j))
 | _,[],j => by simp [viewLs]
 | k,l::r,0 => by simp [viewLs]
 | k,l::r,j+1 => by
   simp only [viewLs,List.getElem?_cons_succ]
   rw [viewLs_get t (k+1) r j,show k+1+j=k+(j+1) by omega]

section
variable {G:Ctx} {fl:List (L × Value)} {st st':St} {a:Act} {w w':World} {vals:VS} {B:Nat→Nat} {F:FS} {S:Nat→Nat→BS} {E:Env}

theorem Rl.viewL (h : Rl G fl st a w vals B F S) {t k : Nat} {c : Cell} {l : L} {u : Value} (hc : st[t]? = some c) (hl : c.ls[k]? = some l) (hu : (vals t)[k]? = some u) :
 OL st vals B F w (GoV.viewL t k l) u:=by
 obtain ⟨g1,g2⟩:=h.leaf t c k l u hc hl hu
 cases l with
 | d o T x =>
   have own:∀ t0:Ty,∀ y:List t0.C,c.ls[k]?=some (.d o (.sl t0) y)→OL st vals B F w (.lent ⟨t,k,none⟩ none) u:=fun t0 y hl =>
     ⟨trivial,.inr ⟨t0,y.length,u,⟨c,o,t0,y,u,hc,.inl hl,hu,rfl,rfl,rfl⟩,rfl⟩⟩
   cases o with
   | fro => exact ⟨g1,g2⟩
   | deep => cases T with
     | sl t0 => exact own t0 x hl
     | _ => exact g1.elim
   | sha => cases T with
     | sl t0 => exact own t0 x hl
     | _ => exact g1.elim
   | frt => cases T with
     | sl t0 => exact own t0 x hl
     | _ => exact g1.elim
   | jnk lo hi => cases T with
     | sl t0 => exact own t0 x hl
     | _ => exact g1.elim
 | hole T x j i => exact ⟨trivial,.inr ⟨T,x.length,u,⟨c,.deep,T,x,u,hc,.inr ⟨rfl,j,i,hl⟩,hu,rfl,rfl,rfl⟩,rfl⟩⟩
 | _ => exact ⟨g1,g2⟩
theorem Rl.viewLs (h:Rl G fl st a w vals B F S) {t:Nat} {c:Cell} (hc:st[t]?=some c) (hlen:(vals t).length=c.ls.length):Ols st vals B F w (GoV.viewLs t 0 c.ls) (vals t):=by
 refine .of (by rw [viewLs_length]; exact hlen) fun k l u hl hu => ?_
 rw [viewLs_get] at hl
 obtain ⟨l0,h0,rfl⟩:=Option.map_eq_some_iff.1 hl
 rw [Nat.zero_add]
 exact h.viewL hc h0 hu
theorem constL_ok {ty:TypeId} {v:Value} {l:L} (h:constL E ty v=some l):CRep F w l v:=by
 unfold constL at h
 split at h
 · simp at h; subst h; exact .d _ _ _ rfl rfl
 · simp at h; subst h; exact .d _ _ _ rfl rfl
 · split at h
   · simp at h; subst h; exact .nil _
   · cases h
 · cases h
theorem constL_one {ty:TypeId} {v:Value} {l:L} (h:constL E ty v=some l):Ones [v]:=by
 unfold constL at h
 split at h <;> first | cases h; done | simp [Ones,Value.oneCell']
theorem CRep.ol {l:L} {u:Value} (h:CRep F w l u):OL st vals B F w l u:=by
 have hl:∀ {l:L},CRep F w l u→LRep F w l u (fun _ => False)∧LinkOK st vals B w l u:=by
  intro l h
  cases h with
  | d T x v h1 h2 => exact ⟨.d _ _ _ h1 h2,trivial⟩
  | nil t => exact ⟨.nil t,trivial⟩
  | fe T x o b base h1 h2 => exact ⟨.fe T x o b base h1 h2,trivial⟩
  | rp ls o b us h1 h2 h3 => exact ⟨.rp ls o b us h1 h2 h3,trivial⟩
  | fn f caps arr h1 h2 => exact ⟨.fn f caps arr h1 h2,trivial⟩
 exact hl h
theorem opnd_ok (h : Rl G fl st a w vals B F S) {ty : TypeId} {x : Operand} {v : Val} (hx : (opnd E ty x).exec st = some (v, st')) :
 st'=st∧∃ us,Ols st vals B F w v.ls us∧VR v.sh us (a.eval x)∧Ones us:=by
 cases x with
 | tmp t =>
   simp only [opnd,viewM] at hx
   obtain ⟨q,st1,h1,h2⟩:=M.bind_some hx
   obtain ⟨c,hc,rfl,rfl⟩:=M.peek_some h1
   have hcell:=h.cell t c hc
   unfold CellOK at hcell
   simp only [Cell.hd] at h2
   split at h2 <;> rename_i hck <;> simp only [hck] at hcell
   · exact (M.fail_some h2).elim
   · obtain ⟨ls, st2, h3, h4⟩ := M.bind_some h2
     obtain ⟨c',hc',rfl,rfl⟩:=M.look_some h3
     rw [hc] at hc'
     obtain rfl:=Option.some.inj hc'
     obtain ⟨rfl,rfl⟩:=M.pure_some h4
     exact ⟨rfl,vals t,h.viewLs hc hcell.1,by simpa [Act.eval] using hcell.2⟩
   · obtain ⟨rfl, rfl⟩ := M.pure_some h2
     refine ⟨rfl, ?_⟩
     rename_i z
     have hp:a.tmps.getD t undef=.pointer (some ⟨B t,0,none⟩):=by cases z <;> exact hcell.2.1
     exact ⟨[a.tmps.getD t undef],⟨⟨trivial,c,hc,.inr ⟨z,hck,hp⟩⟩,trivial⟩,rfl,by simp [Ones,hp,Value.oneCell']⟩
 | const v' =>
   simp only [opnd] at hx
   obtain ⟨l,st1,h1,h2⟩:=M.bind_some hx
   obtain ⟨hl,rfl⟩:=M.opt_some h1
   obtain ⟨rfl,rfl⟩:=M.pure_some h2
   exact ⟨rfl,[v'],⟨(constL_ok hl).ol,trivial⟩,rfl,constL_one hl⟩
 | func f =>
   simp only [opnd] at hx
   obtain ⟨rfl,rfl⟩:=M.pure_some hx
   exact ⟨rfl,[_],⟨(CRep.fn f [] #[] rfl (fun i l h => by simp at h)).ol,trivial⟩,rfl,by simp [Ones,Act.eval,Value.oneCell']⟩
 | global g => simp only [opnd] at hx; exact (M.fail_some hx).elim
theorem leaf1_ok {v:Val} {l:L} (hx:(leaf1 v).exec st=some (l,st')):st'=st∧v=⟨.one,[l]⟩:=by
 unfold leaf1 at hx
 split at hx
 · obtain ⟨rfl,rfl⟩:=M.pure_some hx; exact ⟨rfl,rfl⟩
 · exact (M.fail_some hx).elim
theorem opnd1_ok (h : Rl G fl st a w vals B F S) {ty : TypeId} {x : Operand} {l : L} (hx : (opnd1 E ty x).exec st = some (l, st')) :
 st'=st∧OL st vals B F w l (a.eval x):=by
 simp only [opnd1] at hx
 obtain ⟨v,st1,h1,h2⟩:=M.bind_some hx
 obtain ⟨rfl,us,ho,hv,_⟩:=opnd_ok h h1
 obtain ⟨rfl,rfl⟩:=leaf1_ok h2
 simp only [VR] at hv
 subst hv
 exact ⟨rfl,ho.1⟩

theorem opnd1_one (h:Rl G fl st a w vals B F S) {ty:TypeId} {x:Operand} {l:L} (hx:(opnd1 E ty x).exec st=some (l,st')):(a.eval x).oneCell'=true:=by
 simp only [opnd1] at hx
 obtain ⟨v,st1,h1,h2⟩:=M.bind_some hx
 obtain ⟨rfl,us,ho,hv,h3⟩:=opnd_ok h h1
 obtain ⟨rfl,rfl⟩:=leaf1_ok h2
 simp only [VR] at hv
 subst hv
 exact h3 _ (by simp)

/-! ## Places -/
def Fresh (c:Cell) (p:Pl):Prop:=c.dl=false∧c.ds.testBit p.k=false∧∀ s,p.sub=some s→(esAt c.es p.k).testBit (colE s.2)=false
theorem Fresh.no {c:Cell} {p:Pl} (h:Fresh c p) (hn:c.ls[p.k]?≠some .dead):¬ Turned c p:=by
 obtain ⟨h1,h2,h3⟩:=h
 rintro (h | h | h | ⟨s,h,h'⟩)
 · rw [h1] at h; cases h
 · rw [h2] at h; cases h
 · exact hn h
 · rw [h3 s h] at h'; cases h'
theorem rootL_ok {p:Pl} {l:L} (hx:(rootL p).exec st=some (l,st')):st'=st∧∃ c,st[p.r]?=some c∧Fresh c p∧c.ls[p.k]?=some l:=by
 simp only [rootL] at hx
 obtain ⟨q,st1,h1,h2⟩:=M.bind_some hx
 obtain ⟨c,hc,rfl,rfl⟩:=M.peek_some h1
 obtain ⟨_,st2,h3,h4⟩:=M.bind_some h2
 obtain ⟨hd,rfl⟩:=M.must_some h3
 obtain ⟨q,st3,h5,h6⟩:=M.bind_some h4
 obtain ⟨c',l',hc',hl,rfl,rfl⟩:=M.leafAt_some h5
 rw [hc] at hc'
 obtain rfl:=Option.some.inj hc'
 obtain ⟨_,st4,h7,h8⟩:=M.bind_some h6
 obtain ⟨hds,rfl⟩:=M.must_some h7
 obtain ⟨_,st5,h9,h10⟩:=M.bind_some h8
 obtain ⟨hes,rfl⟩:=M.must_some h9
 obtain ⟨rfl,rfl⟩:=M.pure_some h10
 refine ⟨rfl,c,hc,⟨by simpa [Cell.hd] using hd,by simpa using hds, ?_⟩,hl⟩
 intro s hs
 rw [hs] at hes
 simpa using hes
theorem subM_ok {l l':L} {sub:Option (Nat × Nat)} (hx:(subM l sub).exec st=some (l',st')):st'=st∧subOf l sub=some l':=by
 unfold subM at hx
 split at hx
 · obtain ⟨rfl, rfl⟩ := M.pure_some hx
   exact ⟨rfl,rfl⟩
 · obtain ⟨e, s1, h1, h2⟩ := M.bind_some hx
   obtain ⟨he,e1⟩:=M.nth_some h1
   rw [e1] at h2
   split at h2
   · rename_i hg
     obtain ⟨rfl,rfl⟩:=M.pure_some h2
     exact ⟨rfl,by simp only [subOf,he,hg]⟩
   · exact (M.fail_some h2).elim
 · exact (M.fail_some hx).elim
theorem subM_of {l l':L} {sub:Option (Nat × Nat)} (h:subOf l sub=some l'):(subM l sub).exec st=some (l',st):=by
 unfold subOf at h
 split at h
 · obtain rfl := Option.some.inj h
   rfl
 · split at h
   · rename_i e he
     split at h
     · rename_i hg
       obtain rfl:=Option.some.inj h
       simp only [subM,M.exec_bind,M.nth_of he,Option.bind_some,hg]
       rfl
     · cases h
   · cases h
 · cases h
theorem place_ok {p:Pl} {l:L} (hx:(place p).exec st=some (l,st')):st'=st∧∃ c l0,st[p.r]?=some c∧Fresh c p∧c.ls[p.k]?=some l0∧subOf l0 p.sub=some l:=by
 simp only [place] at hx
 obtain ⟨l0,st1,h1,h2⟩:=M.bind_some hx
 obtain ⟨rfl,c,hc,hf,hl⟩:=rootL_ok h1
 obtain ⟨rfl,hs⟩:=subM_ok h2
 exact ⟨rfl,c,l0,hc,hf,hl,hs⟩
theorem subOf_some {l0 l:L} {sub:Option (Nat × Nat)} (h:subOf l0 sub=some l):∃ o t,∃ x:List t.C,l=.d o (.sl t) x:=by
 unfold subOf at h
 split at h
 · simp at h; exact ⟨_,_,_,h.symm⟩
 · split at h
   · split at h
     · simp at h; exact ⟨_,_,_,h.symm⟩
     · cases h
   · cases h
 · cases h
structure Placed (st : St) (vals : VS) (w : World) (F : FS) (S : Nat → Nat → BS) (p : Pl) (c : Cell) (o : Fl) (t : Ty) (x : List t.C) (hv : Value) : Prop where
 cell:st[p.r]?=some c
 dl:Fresh c p
 hd:PlHd st vals w p t x.length hv
 rep:RepF (fun b q => F b q∨S p.r (p.k+1) b) w (.sl t) x (fun _ => hv)
 fro:o=.fro→RepF F w (.sl t) x (fun _ => hv)
 root:p.sub=none→c.ls[p.k]?=some (.d o (.sl t) x)∧(vals p.r)[p.k]?=some hv
 sf:p.sub=none∨o=.deep∨o=.fro
theorem placed (h : Rl G fl st a w vals B F S) {p : Pl} {l : L} (hx : (place p).exec st = some (l, st')) :
 st'=st∧∃ c o t,∃ x:List t.C,∃ hv,l=.d o (.sl t) x∧Placed st vals w F S p c o t x hv:=by
 obtain ⟨rfl,c,l0,hc,hdl,hl,hs⟩:=place_ok hx
 refine ⟨rfl,c, ?_⟩
 obtain ⟨u0,hu0⟩:=h.val_at hc hl
 obtain ⟨pr,pk,ps⟩:=p
 cases ps with
 | none =>
   unfold subOf at hs
   split at hs
   · rename_i o t x _
     simp at hs; subst hs
     have hrep:=(h.leaf pr c pk _ _ hc hl hu0).1
     exact ⟨o, t, x, u0, rfl, hc, hdl, ⟨c, o, t, x, u0, hc, .inl hl, hu0, rfl, rfl, rfl⟩, hrep.toF (fun _ _ h => .inl h) (fun _ _ h => .inr h),
        fun e => by subst e; cases hrep with | d _ _ _ _ h2 => exact h2,fun _ => ⟨hl,hu0⟩,.inl rfl⟩
   · rename_i hh; cases hh
   · cases hs
 | some q =>
   obtain ⟨j,i⟩:=q
   unfold subOf at hs
   split at hs
   · rename_i hh; cases hh
   · rename_i o T x hh
     simp only [Option.some.injEq,Prod.mk.injEq] at hh
     obtain ⟨rfl,rfl⟩:=hh
     split at hs
     · rename_i e he
       split at hs
       · rename_i o' t y hg
         simp at hs; subst hs
         have hrep:=(h.leaf pr c pk _ _ hc hl hu0).1
         have hfl:=getL_fl' hg
         -- the slice's own value
         have key:∀ {F1:FS},RepF F1 w (.sl T) x (fun _ => u0)→∃ b off C,u0=.slice (some ⟨b,off,none⟩) x.length C∧RepF F1 w (.sl t) y (fun _ => cv w b (off+j * T.size) i):=by
          rintro F1 ⟨A,C,h1,h2,h3⟩
          rcases h3 with rfl | ⟨b,off,rfl,h3⟩
          · simp at he
          · exact ⟨b,off,C,h1,(h3 j e he).2.getL hg⟩
         obtain ⟨b,off,C,hu,hr⟩:=key (hrep.toF (F':=fun b q => F b q∨S pr (pk+1) b) (fun _ _ h => .inl h) (fun _ _ h => .inr h))
         refine ⟨o',t,y,cv w b (off+j * T.size) i,rfl,hc,hdl,⟨c,o,T,x,u0,hc,.inl hl,hu0,e,o',y,b,off,C,he,hg,rfl,hu,rfl⟩,hr, ?_,(fun e => by cases e),.inr (by rw [hfl]; cases o <;> simp [Fl.el])⟩
         intro ho'
         subst ho'
         have ho:o≠.deep:=by
          intro ho; subst ho; simp [Fl.el] at hfl
         cases o with
         | deep => exact absurd rfl ho
         | jnk lo hi => simp [Fl.el] at hfl
         | fro =>
           cases hrep with
           | d _ _ _ _ h2 =>
             obtain ⟨b1,off1,C1,hu1,hr1⟩:=key h2
             rw [hu] at hu1
             simp only [Value.slice.injEq,Option.some.injEq,Addr.mk.injEq] at hu1
             obtain ⟨⟨rfl,rfl,_⟩,_⟩:=hu1
             exact hr1
         | frt =>
           obtain ⟨b1,off1,C1,hu1,hr1⟩:=key hrep.1
           rw [hu] at hu1
           simp only [Value.slice.injEq,Option.some.injEq,Addr.mk.injEq] at hu1
           obtain ⟨⟨rfl,rfl,_⟩,_⟩:=hu1
           exact hr1
         | sha =>
           obtain ⟨⟨A,C1,h1,h2,h3⟩,_⟩:=hrep
           rw [hu] at h1
           rcases h3 with ⟨rfl,_⟩ | ⟨b1,off1,arr,rfl,_,_,_,he1⟩
           · simp at h1
           · simp only [Value.slice.injEq, Option.some.injEq, Addr.mk.injEq] at h1
             obtain ⟨⟨rfl,rfl,_⟩,_⟩:=h1
             exact (he1 j e he).getL hg
       · cases hs
     · cases hs
   · cases hs
theorem Placed.link {p : Pl} {c : Cell} {o : Fl} {t : Ty} {x : List t.C} {hv u : Value} {rg : Option (Nat × Option Nat)} (hp : Placed st vals w F S p c o t x hv)
 (hnd:c.ls[p.k]?≠some .dead) (hk:LinkOK st vals B w (.lent p rg) u):Resl t.size rg x.length hv u:=by
 rcases hk with ⟨q,hq,hd⟩ | ⟨t1,n1,hv1,h1,hr⟩
 · rw [hp.cell] at hq
   obtain rfl:=Option.some.inj hq
   exact absurd hd (hp.dl.no hnd)
 · obtain ⟨c1, o1, t0, x0, h0, g1, g2, g3, g4⟩ := hp.hd
   obtain ⟨c2,o2,t2,x2,h2,k1,k2,k3,k4⟩:=h1
   rw [g1] at k1
   obtain rfl:=Option.some.inj k1
   obtain ⟨rfl,rfl,hxk2⟩:=g2.inj k2
   obtain rfl:=eq_of_heq hxk2
   rw [g3] at k3
   obtain rfl:=Option.some.inj k3
   obtain ⟨pr,pk,ps⟩:=p
   cases ps with
   | none =>
     obtain ⟨rfl,hn,rfl⟩:=g4
     obtain ⟨rfl,rfl,rfl⟩:=k4
     rw [hn]
     exact hr
   | some q =>
     obtain ⟨j,i⟩:=q
     obtain ⟨e,o',y,b,off,C,m1,m2,m3,m4,m5⟩:=g4
     obtain ⟨e2,o2,y2,b2,off2,C2,q1,q2,q3,q4,q5⟩:=k4
     rw [m1] at q1
     obtain rfl:=Option.some.inj q1
     rw [m2] at q2
     simp only [Option.some.injEq,L.d.injEq,Ty.sl.injEq] at q2
     obtain ⟨rfl,rfl,q2⟩:=q2
     cases q2
     rw [m4] at q4
     simp only [Value.slice.injEq,Option.some.injEq,Addr.mk.injEq] at q4
     obtain ⟨⟨rfl,rfl,_⟩,_⟩:=q4
     rw [m3,m5]
     rw [q3,q5] at hr
     exact hr
end
end GoV

/- A row out of which an element's slice is taken. -/
namespace GoV
open Go

theorem RepD.hole {w : World} : ∀ {T : Ty} {e : T.C} {cs : Nat → Value} {S : BS} {i : Nat} {t : Ty} {x : List t.C}, RepD w T e cs S → T.getL .deep e i = some (.d .deep (.sl t) x) →
 ∃ X : BS, (∀ b, X b → S b) ∧ RepD w (.sl t) x (fun _ => cs i) X ∧ ∀ (w' : World) (X' : BS) (t' : Ty) (x' : List t'.C) (e' : T.C) (cs' : Nat → Value), (∀ b, S b → ¬ X b → w'.heap[b]? = w.heap[b]?) →
   (∀ k,k<T.size→k≠i→cs' k=cs k)→T.setL e i (.d .deep (.sl t') x')=some e'→(∀ b,S b→¬ X b→¬ X' b)→RepD w' (.sl t') x' (fun _ => cs' i) X'→RepD w' T e' cs' (fun b => (S b∧¬ X b)∨X' b):=by
 intro T
 induction T with
 | int k => intro e cs S i t x _ h; cases i <;> simp [Ty.getL] at h
 | bool => intro e cs S i t x _ h; cases i <;> simp [Ty.getL] at h
 | unit => intro e cs S i t x _ h; cases i <;> simp [Ty.getL] at h
 | sl t0 =>
   intro e cs S i t x hr h
   cases i with
   | succ i => simp [Ty.getL] at h
   | zero =>
     simp only [Ty.getL,Option.some.injEq,L.d.injEq,Ty.sl.injEq,true_and] at h
     obtain ⟨rfl,h⟩:=h
     cases h
     refine ⟨S,fun _ h => h,hr.congr fun i hi => by simp [Ty.size] at hi; simp [hi],fun w' X' t' x' e' cs' h1 h2 h3 h4 h5 => ?_⟩
     simp only [Ty.setL] at h3
     split at h3
     · rename_i ht
       subst ht
       obtain rfl:=Option.some.inj h3
       exact (h5.up fun y hy => .inr hy).congr fun i hi => by
         simp [Ty.size] at hi
         subst hi
         rfl
     · cases h3
 | pair a b iha ihb =>
   intro e cs S i t x hr h
   simp only [RepD] at hr
   obtain ⟨Sa,Sb,h1,h2,h3,ha,hb⟩:=hr
   simp only [Ty.getL] at h
   split at h
   · rename_i hi
     obtain ⟨X,g1,g2,g3⟩:=iha ha h
     refine ⟨X,fun y hy => h1 y (g1 y hy),g2,fun w' X' t' x' e' cs' k1 k2 k3 k4 k5 => ?_⟩
     simp only [Ty.setL] at k3
     split at k3
     · split at k3
       · rename_i y hy
         obtain rfl:=Option.some.inj k3
         refine ⟨fun b => (Sa b ∧ ¬ X b) ∨ X' b, Sb, fun y hy => hy.imp (fun hy => ⟨h1 y hy.1, hy.2⟩) id, fun y hy => .inl ⟨h2 y hy, fun hx => h3 y (g1 y hx) hy⟩, fun y hy hy' => ?_,
          g3 w' X' t' x' y cs' (fun b hb => k1 b (h1 b hb)) (fun k hk hne => k2 k (by simp only [Ty.size]; omega) hne) hy (fun b hb => k4 b (h1 b hb)) k5, ?_⟩
         · rcases hy with hy | hy
           · exact h3 y hy.1 hy'
           · exact k4 y (h2 y hy') (fun hx => h3 y (g1 y hx) hy') hy
         · exact (hb.stable fun b hb' => k1 b (h2 b hb') (fun hx => h3 b (g1 b hx) hb')).congr fun k hk => k2 _ (by simp only [Ty.size]; omega) (by omega)
       · cases k3
     · omega
   · rename_i hi
     obtain ⟨X,g1,g2,g3⟩:=ihb hb h
     have hidx:a.size+(i - a.size)=i:=by omega
     refine ⟨X,fun y hy => h2 y (g1 y hy),by simpa [hidx] using g2,fun w' X' t' x' e' cs' k1 k2 k3 k4 k5 => ?_⟩
     simp only [Ty.setL] at k3
     split at k3
     · omega
     · split at k3
       · rename_i y hy
         obtain rfl:=Option.some.inj k3
         refine ⟨Sa, fun b => (Sb b ∧ ¬ X b) ∨ X' b, fun y hy => .inl ⟨h1 y hy, fun hx => h3 y hy (g1 y hx)⟩, fun y hy => hy.imp (fun hy => ⟨h2 y hy.1, hy.2⟩) id, fun y hy hy' => ?_, ?_,
          g3 w' X' t' x' y (fun i => cs' (a.size+i)) (fun b hb => k1 b (h2 b hb)) (fun k hk hne => k2 _ (by simp only [Ty.size]; omega) (by omega)) hy (fun b hb => k4 b (h2 b hb)) (by simpa [hidx] using k5)⟩
         · rcases hy' with hy' | hy'
           · exact h3 y hy hy'.1
           · exact k4 y (h1 y hy) (fun hx => h3 y hy (g1 y hx)) hy'
         · exact (ha.stable fun b hb' => k1 b (h1 b hb') (fun hx => h3 b hb' (g1 b hx))).congr fun k hk => k2 _ (by simp only [Ty.size]; omega) (by omega)
       · cases k3
theorem RepD.rowHole {w : World} {T : Ty} {y : List T.C} {v : Value} {S : BS} {j i : Nat} {e : T.C} {t : Ty} {x : List t.C} (h : RepD w (.sl T) y (fun _ => v) S) (hj : y[j]? = some e)
 (hg:T.getL .deep e i=some (.d .deep (.sl t) x)) :
 ∃ (X:BS) (b off C:Nat),v=.slice (some ⟨b,off,none⟩) y.length C∧(∀ b,X b→S b)∧RepD w (.sl t) x (fun _ => cv w b (off+j * T.size) i) X∧HoleD w T y j i v (fun b => S b∧¬ X b):=by
 simp only [RepD] at h
 obtain ⟨A,c,h1,h2,h3⟩:=h
 rcases h3 with ⟨_,hc⟩ | ⟨b,o,arr,rfl,hS,hk,hs,Ss,hs1,hs2,he⟩
 · have := get_lt hj
   omega
 · obtain ⟨X, g1, g2, g3⟩ := (he j e hj).hole hg
   have hXS:∀ z,X z→S z:=fun z hz => (hs1 j z (g1 z hz)).1
   have hbX:¬ X b:=fun hb => (hs1 j b (g1 b hb)).2 rfl
   refine ⟨X,b,o,c,h1,hXS,g2,b,o,c,arr,h1,h2,⟨hS,hbX⟩,hk,hs,fun w' X' t' x' e1 e' arr' k1 kb kz kq k2 k3 k4 k5 => ?_⟩
   rw [hj] at k2
   obtain rfl:=Option.some.inj k2
   have hir:=getL_lt hg
   have hcv:∀ q s,s<T.size→¬ (q=j∧s=i)→cv w' b (o+q * T.size) s=cv w b (o+q * T.size) s:=fun q s hs' hne => by
    simp only [cv]
    rw [kq _ fun e1 => hne ?_]
    have hqs:q * T.size+s=j * T.size+i:=by omega
    have hq:q=j:=by
        rcases Nat.lt_trichotomy q j with h6 | h6 | h6
        · have := mul_lt_of h6 (Nat.le_refl _) hs'
          omega
        · exact h6
        · have := mul_lt_of h6 (Nat.le_refl _) hir
          omega
    subst hq
    exact ⟨rfl,by omega⟩
   have k1':∀ z,S z→¬ X z→z≠b→w'.heap[z]?=w.heap[z]?:=fun z hz hx hne => k1 z ⟨hz,hx⟩ hne
   simp only [RepD]
   refine ⟨some ⟨b,o,none⟩,c,by rw [List.length_set]; exact h1,by rw [List.length_set]; exact h2,.inr ⟨b,o,arr',rfl,.inl ⟨hS,hbX⟩,kb,by rw [kz]; exact hs,fun k => if k=j then (fun z => (Ss j z∧¬ X z)∨X' z) else Ss k,fun k z hz => ?_,fun k k' z hne hz hz' => ?_,fun k f hf => ?_⟩⟩
   · dsimp only at hz
     split at hz
     · rcases hz with ⟨hz, hx⟩ | hz
       · exact ⟨.inl ⟨(hs1 j z hz).1,hx⟩,(hs1 j z hz).2⟩
       · refine ⟨.inr hz, fun e => ?_⟩
         subst e
         exact k4 _ ⟨hS,hbX⟩ hz
     · rename_i hkj
       exact ⟨.inl ⟨(hs1 k z hz).1,fun hx => hs2 k j z hkj hz (g1 z hx)⟩,(hs1 k z hz).2⟩
   · dsimp only at hz hz'
     split at hz <;> split at hz'
     · rename_i e1 e2; exact hne (e1.trans e2.symm)
     · rename_i e1 e2
       rcases hz with ⟨hz,_⟩ | hz
       · exact hs2 j k' z (fun e => e2 e.symm) hz hz'
       · exact k4 z ⟨(hs1 k' z hz').1,fun hx => hs2 k' j z e2 hz' (g1 z hx)⟩ hz
     · rename_i e1 e2
       rcases hz' with ⟨hz',_⟩ | hz'
       · exact hs2 k j z e1 hz hz'
       · exact k4 z ⟨(hs1 k z hz).1,fun hx => hs2 k j z e1 hz (g1 z hx)⟩ hz'
     · exact hs2 k k' z hne hz hz'
   · rw [get_set (get_lt hj)] at hf
     split at hf
     · rename_i e1
       subst e1
       obtain rfl:=Option.some.inj hf
       dsimp only
       rw [if_pos rfl]
       exact g3 w' X' t' x' _ _ (fun z hz hx => k1' z (hs1 _ z hz).1 hx (hs1 _ z hz).2) (fun s hs' hne => hcv _ s hs' fun e => hne e.2) k3 (fun z hz hx => k4 z ⟨(hs1 _ z hz).1,hx⟩) k5
     · rename_i e1
       dsimp only
       rw [if_neg (fun e => e1 e.symm)]
       exact ((he k f hf).stable fun z hz => k1' z (hs1 k z hz).1 (fun hx => hs2 k j z (fun e => e1 e.symm) hz (g1 z hx)) (hs1 k z hz).2).congr fun s hs' => hcv k s hs' fun e => e1 e.1.symm

section
variable {G:Ctx} {fl:List (L × Value)} {st st':St} {a:Act} {w w':World} {vals:VS} {B:Nat→Nat} {F F':FS} {S:Nat→Nat→BS} {E:Env}
theorem Rl.pushX (h : Rl G fl st a w vals B F S) {l : L} {u : Value} {X : BS} (hX : ∀ b, X b → b < w.heap.size ∧ ¬ G.U b ∧ (b < G.w0.heap.size → G.SA b) ∧ ∀ i k, ¬ S i k b)
 (hl:LRep F w l u X) (hk:LinkOK st vals B w l u) :
 Rl G (fl ++ [(l,u)]) st a w vals B F (upS S st.length (fl.length+1) X):=by
 refine { h with cell:=fun i c hc => ?_,leaf:=fun i c k l' u' hc hl' hu => ?_,fleaf:=fun k l' u' hf => ?_,disj:=fun i k i' k' b hne hb hb' => ?_,sub:=fun i k b hb => ?_ }
 · have hi : i < st.length := get_lt hc
   rw [upS_ne (by omega)]
   exact h.cell i c hc
 · have hi : i < st.length := get_lt hc
   rw [upS_ne (by omega)]
   exact h.leaf i c k l' u' hc hl' hu
 · by_cases e : k < fl.length
   · rw [List.getElem?_append_left e] at hf
     rw [upS_ne (by omega)]
     exact h.fleaf k l' u' hf
   · rw [List.getElem?_append_right (by omega)] at hf
     have hk0:k=fl.length:=by
        have:=get_lt hf
        simp at this
        omega
     subst hk0
     simp at hf
     obtain ⟨rfl,rfl⟩:=hf
     rw [upS_self]
     exact ⟨hl,hk⟩
 · by_cases e : i = st.length ∧ k = fl.length + 1
   · obtain ⟨rfl, rfl⟩ := e
     rw [upS_self] at hb
     by_cases e':i'=st.length∧k'=fl.length+1
     · obtain ⟨rfl, rfl⟩ := e'
       exact hne rfl
     · rw [upS_ne e'] at hb'
       exact (hX b hb).2.2.2 _ _ hb'
   · rw [upS_ne e] at hb
     by_cases e':i'=st.length∧k'=fl.length+1
     · obtain ⟨rfl, rfl⟩ := e'
       rw [upS_self] at hb'
       exact (hX b hb').2.2.2 _ _ hb
     · rw [upS_ne e'] at hb'
       exact h.disj i k i' k' b hne hb hb'
 · by_cases e : i = st.length ∧ k = fl.length + 1
   · obtain ⟨rfl, rfl⟩ := e
     rw [upS_self] at hb
     obtain ⟨h1,h2,h3,_⟩:=hX b hb
     exact ⟨h1,h2,h3⟩
   · rw [upS_ne e] at hb
     exact h.sub i k b hb
theorem Rl.part (h : Rl G fl st a w vals B F S) {r k : Nat} {c : Cell} {l l1 l2 : L} {u u2 : Value} {d : Bool} {e : Nat} {S1 S2 : BS} (hc : st[r]? = some c) (hlf : c.ls[k]? = some l) (hu : (vals r)[k]? = some u)
 (hl:Less F F' (S r (k+1)) S1) (hS2:∀ b,S2 b→S r (k+1) b∧¬ S1 b) (hbox:∀ z,c.ck=.box z→z=false)
 (hr:LRep F' w l1 u S1) (hk:LinkOK st vals B w l1 u) (hle:LeafLe d e (some l) (some l1)) (hr2:LRep F' w l2 u2 S2) (hk2:LinkOK st vals B w l2 u2) :
 ∃ S',Rl G (fl ++ [(l2,u2)]) (st.set r (c.setL k l1 d e)) a w vals B F' S':=by
 have h1:=h.coSlot hc hlf hu hl hbox hr hk hle
 refine ⟨_,h1.pushX (X:=S2) (fun b hb => ?_) hr2 (hk2.set hc (.leaf hlf hle))⟩
 obtain ⟨g1,g2⟩:=hS2 b hb
 obtain ⟨m1,m2,m3⟩:=h.sub _ _ b g1
 refine ⟨m1,m2,m3,fun i k' hb' => ?_⟩
 by_cases e':i=r∧k'=k+1
 · obtain ⟨rfl, rfl⟩ := e'
   rw [upS_self] at hb'
   exact g2 hb'
 · rw [upS_ne e'] at hb'
   exact h.disj _ _ _ _ b (fun e => e' (by simp only [Prod.mk.injEq] at e; exact ⟨e.1.symm,e.2.symm⟩)) g1 hb'
theorem Rl.box_false (h : Rl G fl st a w vals B F S) {r k : Nat} {c : Cell} {o : Fl} {t : Ty} {x : List t.C} (hc : st[r]? = some c) (hl : c.ls[k]? = some (.d o (.sl t) x)) (ho : o ≠ .fro) :
 ∀ z,c.ck=.box z→z=false:=by
 intro z hz
 cases z with
 | false => rfl
 | true =>
   obtain ⟨hv,hu⟩:=h.val_at hc hl
   have:=h.cell r c hc
   simp only [CellOK,hz] at this
   have hcr:=this.2.2.2.1 k _ _ hl hu
   cases hcr
   exact absurd rfl ho
theorem place_of {p:Pl} {c:Cell} {l0 l:L} (hc:st[p.r]?=some c) (hf:Fresh c p) (hl:c.ls[p.k]?=some l0) (hs:subOf l0 p.sub=some l):(place p).exec st=some (l,st):=by
 obtain ⟨h1,h2,h3⟩:=hf
 have e:(rootL p).exec st=some (l0,st):=by
  simp only [rootL,M.exec_bind,M.peek,M.leafAt,M.exec,hc,hl,Option.bind_some,Cell.hd,h1,h2,M.exec_must,Bool.not_false,if_true]
  rw [if_pos ?_]
  · simp [M.exec_pure]
  · cases hs' : p.sub with
    | none => rfl
    | some s => simp [h3 s hs']
 simp only [place,M.exec_bind,e,Option.bind_some,subM_of hs]
theorem Placed.nd {p:Pl} {c:Cell} {o:Fl} {t:Ty} {x:List t.C} {hv:Value} (hp:Placed st vals w F S p c o t x hv):c.ls[p.k]?≠some .dead:=by
 obtain ⟨c1,o1,t0,x0,h0,g1,g2,_⟩:=hp.hd
 rw [hp.cell] at g1
 obtain rfl:=Option.some.inj g1
 rcases g2 with g2 | ⟨_,_,_,g2⟩ <;> rw [g2] <;> simp
theorem Placed.inElem {r k j i : Nat} {c c0 : Cell} {o o0 : Fl} {t T : Ty} {x : List t.C} {y : List T.C} {hv u0 : Value} (hp : Placed st vals w F S ⟨r, k, some (j, i)⟩ c o t x hv) (hpl : (place ⟨r, k, some (j, i)⟩).exec st = some (.d o (.sl t) x, st)) (hc : st[r]? = some c0) (hl : c0.ls[k]? = some (.d o0 (.sl T) y))
 (hu:(vals r)[k]?=some u0):∃ e,y[j]?=some e∧T.getL o0.el e i=some (.d o (.sl t) x)∧∃ b off C,u0=.slice (some ⟨b,off,none⟩) y.length C∧hv=cv w b (off+j * T.size) i:=by
 obtain ⟨_,cp,lp,k1,_,k3,k4⟩:=place_ok hpl
 simp only at k1 k3 k4
 rw [hc] at k1
 obtain rfl:=Option.some.inj k1
 rw [hl] at k3
 obtain rfl:=Option.some.inj k3
 simp only [subOf] at k4
 split at k4
 · rename_i e he
   split at k4
   · rename_i o' t' y' hg
     refine ⟨e,he,hg.trans k4, ?_⟩
     obtain ⟨c3,o3,t3,x3,h3',g1,g2,g3,e3,o4,y3,b3,off3,C3,g4,g5,g6,g7,g8⟩:=hp.hd
     simp only at g1 g2 g3
     rw [hc] at g1
     obtain rfl:=Option.some.inj g1
     obtain ⟨rfl,rfl,hxg2⟩:=RowL.inj (.inl hl) g2
     obtain rfl:=eq_of_heq hxg2
     rw [hu] at g3
     obtain rfl:=Option.some.inj g3
     exact ⟨b3,off3,C3,g7,g8⟩
   · cases k4
 · cases k4
end
end GoV

/- Leaves that are taken into the air. -/
namespace GoV
open Go
section
variable {G:Ctx} {fl:List (L × Value)} {st st':St} {a:Act} {w w':World} {vals:VS} {B:Nat→Nat} {F:FS} {S:Nat→Nat→BS} {E:Env}

structure Keeps (vals : VS) (B : Nat → Nat) (w : World) (st st' : St) : Prop where
 len:st'.length=st.length
 link:∀ l u,LinkOK st vals B w l u→LinkOK st' vals B w l u
theorem Keeps.refl (vals:VS) (B:Nat→Nat) (w:World) (st:St):Keeps vals B w st st:=⟨rfl,fun _ _ h => h⟩
theorem Keeps.trans {st1 st2 st3:St} (h:Keeps vals B w st1 st2) (k:Keeps vals B w st2 st3):Keeps vals B w st1 st3 :=
 ⟨k.len.trans h.len,fun l u q => k.link l u (h.link l u q)⟩
theorem Keeps.set {r:Nat} {c c':Cell} (hr:st[r]?=some c) (h:CellLe c c'):Keeps vals B w st (st.set r c'):=⟨by simp,fun _ _ hk => hk.set hr h⟩
theorem Keeps.ols (h : Keeps vals B w st st') : ∀ {ls : List L} {us : List Value}, Ols st vals B F w ls us → Ols st' vals B F w ls us
 | [],[],_ => trivial
 | _::_,_::_,q => ⟨⟨q.1.1,h.link _ _ q.1.2⟩,Keeps.ols h q.2⟩
 | [],_::_,q => q.elim
 | _::_,[],q => q.elim
theorem steal_ok (h : Rl G fl st a w vals B F S) {p : Pl} {rg : Option (Nat × Option Nat)} {l' : L} {u : Value} (hk : LinkOK st vals B w (.lent p rg) u)
 (hx:(steal p rg).exec st=some (l',st')):∃ S',Rl G (fl ++ [(l',u)]) st' a w vals B F S'∧Keeps vals B w st st':=by
 simp only [steal] at hx
 obtain ⟨l,st1,h1,h2⟩:=M.bind_some hx
 obtain ⟨rfl,c,o,t,x,hv,rfl,hp⟩:=placed h h1
 have hnd:c.ls[p.k]?≠some .dead:=by
  obtain ⟨c1,o1,t0,x0,h0,g1,g2,_⟩:=hp.hd
  rw [hp.cell] at g1
  obtain rfl:=Option.some.inj g1
  rcases g2 with g2 | ⟨_,_,_,g2⟩ <;> rw [g2] <;> simp
 have hr:=hp.link hnd hk
 cases o with
 | fro =>
   obtain ⟨rfl,rfl⟩:=M.pure_some h2
   have hf:=(hp.fro rfl).cut hr
   exact ⟨_,h.push (CRep.sl hf) trivial,.refl _ _ _ _⟩
 | _ =>
   cases hs:p.sub with
   | some q =>
     obtain ⟨j,i⟩:=q
     simp only [hs] at h2
     obtain ⟨q,st2,h3,h4⟩:=M.bind_some h2
     obtain ⟨c',l0,hc,hl,rfl,e2⟩:=M.leafAt_some h3
     rw [e2] at h4
     rw [hp.cell] at hc
     obtain rfl:=Option.some.inj hc
     obtain ⟨pr,pk,ps⟩:=p
     simp only at hs hl h4
     subst hs
     first | exact (M.fail_some h4).elim | skip
     all_goals
        split at h4
        · rename_i T y t0 x0 heq
          simp only [L.d.injEq] at heq
          obtain ⟨hd,rfl,heq⟩:=heq
          cases heq
          obtain ⟨_,st3,h5,h6⟩:=M.bind_some h4
          obtain ⟨c',hc',_,rfl⟩:=M.writeS_some h5
          rw [hp.cell] at hc'
          obtain rfl:=Option.some.inj hc'
          obtain ⟨rfl,rfl⟩:=M.pure_some h6
          obtain ⟨u0,hu⟩:=h.val_at hp.cell hl
          obtain ⟨hrep,hnof⟩:=(h.leaf _ _ _ _ _ hp.cell hl hu).1
          obtain ⟨e,he,hg,b1,off1,C1,hu0,hhv⟩:=hp.inElem h1 hp.cell hl hu
          obtain ⟨X,b,off,C,q1,q2,q3,q4⟩:=hrep.rowHole he hg
          rw [hu0] at q1
          simp only [Value.slice.injEq,Option.some.injEq,Addr.mk.injEq] at q1
          obtain ⟨⟨rfl,rfl,_⟩,_⟩:=q1
          rw [← hhv] at q3
          have hlf:LeafLe false 0 (some (.d .deep (.sl T) y)) (some (.hole T y j i)):=.inr (.inr (.inr (.inr ⟨.deep,.deep,T,y,y,.inl rfl,.inr ⟨rfl,j,i,rfl⟩,rfl,.refl _ _ _⟩)))
          have hcut:LRep F w (.d (cutFl rg .deep) (.sl t) (cut rg x)) u X:=LRep.cut (F:=F) (o:=.deep) ⟨q3,fun z hz => hnof z (q2 z hz)⟩ hr
          obtain ⟨S', g1⟩ := h.part (F' := F) (l1 := .hole T y j i) (S1 := fun z => S pr (pk + 1) z ∧ ¬ X z) (S2 := X) (u2 := u) hp.cell hl hu ⟨fun _ _ h => h, fun _ _ h => .inl h, fun _ h => h.1⟩
           (fun z hz => ⟨q2 z hz,fun hz' => hz'.2 hz⟩) (h.box_false hp.cell hl (by simp)) ⟨q4,fun z hz => hnof z hz.1⟩ trivial hlf hcut (by cases rg <;> trivial)
          exact ⟨S',g1,.set hp.cell (.leaf hl hlf)⟩
        · exact (M.fail_some h4).elim
   | none =>
     simp only [hs] at h2
     obtain ⟨_,st2,h3,h4⟩:=M.bind_some h2
     obtain ⟨c',hc,_,rfl⟩:=M.writeL_some h3
     rw [hp.cell] at hc
     obtain rfl:=Option.some.inj hc
     obtain ⟨rfl,rfl⟩:=M.pure_some h4
     obtain ⟨hl,hu⟩:=hp.root hs
     have h9:=h.steal hp.cell hl hu (by simp)
     have h10:=h9.coFloat (m:=fl.length) List.getElem?_concat_length (F':=F) (S0':=S p.r (p.k+1)) ⟨fun _ _ h => h,fun _ _ h => .inl h,fun b hb => by
        simp only [List.length_set]
        rw [upS_ne (by have:=get_lt hp.cell; omega),upS_self]
        exact hb⟩ ((h.leaf _ _ _ _ _ hp.cell hl hu).1.cut hr) (by cases rg <;> trivial)
     refine ⟨_,by simpa [cutL] using h10,.set hp.cell (.leaf hl (.inr (.inr (.inl rfl))))⟩
theorem stealEl_ok (h : Rl G fl st a w vals B F S) {p : Pl} {rg : Option (Nat × Option Nat)} {l' : L} {u : Value} (hk : LinkOK st vals B w (.lent p rg) u)
 (hx:(stealEl p rg).exec st=some (l',st')):∃ S',Rl G (fl ++ [(l',u)]) st' a w vals B F S'∧Keeps vals B w st st':=by
 unfold stealEl at hx
 obtain ⟨l0,s1,h1,h2⟩:=M.bind_some hx
 obtain ⟨e1,c,hc,hfr,hl⟩:=rootL_ok h1
 rw [e1] at h2
 obtain ⟨pr,pk,ps⟩:=p
 simp only at hc hl h2
 split at h2
 · rename_i T x j i
   replace h2:=M.bind_some h2
   obtain ⟨e,s2,h3,h4⟩:=h2
   obtain ⟨he,e2⟩:=M.nth_some h3
   rw [e2] at h4
   split at h4
   · rename_i t y hg
     obtain ⟨_,s3,h5,h6⟩:=M.bind_some h4
     obtain ⟨c',hc',_,rfl⟩:=M.writeL_some h5
     rw [hc] at hc'
     obtain rfl:=Option.some.inj hc'
     obtain ⟨rfl,rfl⟩:=M.pure_some h6
     obtain ⟨hv,hu⟩:=h.val_at hc hl
     obtain ⟨hrep,hnof⟩:=(h.leaf _ _ _ _ _ hc hl hu).1
     have hpl:(place ⟨pr,pk,some (j,i)⟩).exec st=some (.d .deep (.sl t) y,st):=by
        obtain ⟨g1,g2,g3⟩:=hfr
        have er:(rootL ⟨pr,pk,some (j,i)⟩).exec st=some (.d .deep (.sl T) x,st):=by rw [h1,e1]
        have hs:subOf (.d .deep (.sl T) x) (some (j,i))=some (.d .deep (.sl t) y):=by simp [subOf,he,hg,Fl.el]
        simp only [place,M.exec_bind,er,Option.bind_some,subM_of hs]
     obtain ⟨_,c2,o2,t2,x2,hv2,heq,hp2⟩:=placed h hpl
     simp only [L.d.injEq,Ty.sl.injEq] at heq
     obtain ⟨rfl,rfl,heq⟩:=heq
     cases heq
     have hnd:c2.ls[pk]?≠some .dead:=by
        have:=hp2.cell
        simp only at this
        rw [hc] at this
        obtain rfl:=Option.some.inj this
        rw [hl]
        simp
     have hr:=hp2.link hnd hk
     obtain ⟨c3,o3,t3,x3,h3',g1,g2,g3,e3,o4,y3,b3,off3,C3,g4,g5,g6,g7,g8⟩:=hp2.hd
     simp only at g1 g2 g3
     rw [hc] at g1
     obtain rfl:=Option.some.inj g1
     obtain ⟨rfl,rfl,hxg2⟩:=RowL.inj (.inl hl) g2
     obtain rfl:=eq_of_heq hxg2
     rw [hu] at g3
     obtain rfl:=Option.some.inj g3
     rw [he] at g4
     obtain rfl:=Option.some.inj g4
     obtain ⟨A,C,k1,k2,k3⟩:=hrep
     simp only at k1
     rw [g7] at k1
     have hel:RepD w (.sl t) y (fun _ => hv2) (S pr (pk+1)):=by
        rcases k3 with ⟨rfl,_⟩ | ⟨b,off,arr,rfl,k4,k5,k6,Ss,k7,k8,k9⟩
        · simp at k1
        · simp only [Value.slice.injEq, Option.some.injEq, Addr.mk.injEq] at k1
          obtain ⟨⟨rfl,rfl,_⟩,_⟩:=k1
          rw [g8]
          exact ((k9 j e he).getL hg).up fun z hz => (k7 j z hz).1
     have h9:=h.steal hc hl hu (by simp)
     have hcut:LRep F w (.d (cutFl rg .deep) (.sl t) (cut rg y)) u (S pr (pk+1)):=LRep.cut (F:=F) (o:=.deep) ⟨hel,hnof⟩ hr
     have h10:=h9.coFloat (m:=fl.length) (u':=u) List.getElem?_concat_length (F':=F) (S0':=S pr (pk+1)) ⟨fun _ _ h => h,fun _ _ h => .inl h,fun b hb => by
        simp only [List.length_set]
        rw [upS_ne (by have:=get_lt hc; omega),upS_self]
        exact hb⟩ hcut (by cases rg <;> trivial)
     refine ⟨_,by simpa [cutL] using h10,.set hc (.leaf hl (.inr (.inr (.inl rfl))))⟩
   · exact (M.fail_some h4).elim
 · exact steal_ok h hk h2
theorem keepL_ok (h : Rl G fl st a w vals B F S) {l l' : L} {u : Value} (ho : OL st vals B F w l u) (hx : (keepL l).exec st = some (l', st')) :
 ∃ S',Rl G (fl ++ [(l',u)]) st' a w vals B F S'∧Keeps vals B w st st':=by
 unfold keepL at hx
 split at hx
 · exact steal_ok h ho.2 hx
 · obtain ⟨rfl, rfl⟩ := M.pure_some hx
   exact ⟨_,h.push ho.1 ho.2,.refl _ _ _ _⟩
theorem moveL_ok (h : Rl G fl st a w vals B F S) {l l' : L} {u : Value} (ho : OL st vals B F w l u) (hx : (moveL l).exec st = some (l', st')) :
 ∃ S',Rl G (fl ++ [(l',u)]) st' a w vals B F S'∧Keeps vals B w st st':=by
 unfold moveL at hx
 split at hx
 · exact steal_ok h ho.2 hx
 · exact (M.fail_some hx).elim
 · exact (M.fail_some hx).elim
 · exact (M.fail_some hx).elim
 · obtain ⟨rfl, rfl⟩ := M.pure_some hx
   exact ⟨_,h.push ho.1 ho.2,.refl _ _ _ _⟩
theorem retL_ok (h : Rl G fl st a w vals B F S) {no : Bool} {l l' : L} {u : Value} (ho : OL st vals B F w l u) (hx : (retL no l).exec st = some (l', st')) :
 ∃ S',Rl G (fl ++ [(l',u)]) st' a w vals B F S'∧Keeps vals B w st st':=by
 unfold retL at hx
 split at hx
 · obtain ⟨hd, s1, h1, h2⟩ := M.bind_some hx
   obtain ⟨c,hc,rfl,hs1⟩:=M.peek_some h1
   rw [hs1] at h2
   split at h2
   · split at h2
     · obtain ⟨rfl, rfl⟩ := M.pure_some h2
       exact ⟨_,h.push trivial trivial,.refl _ _ _ _⟩
     · exact steal_ok h ho.2 h2
   · exact stealEl_ok h ho.2 h2
 · exact (M.fail_some hx).elim
 · exact (M.fail_some hx).elim
 · exact (M.fail_some hx).elim
 · obtain ⟨rfl, rfl⟩ := M.pure_some hx
   exact ⟨_,h.push ho.1 ho.2,.refl _ _ _ _⟩
theorem mapL_ok {f : L → M L} (hf : ∀ {fl : List (L × Value)} {st st' : St} {S : Nat → Nat → BS} {l l' : L} {u : Value}, Rl G fl st a w vals B F S → OL st vals B F w l u → (f l).exec st = some (l', st') →
 ∃ S',Rl G (fl ++ [(l',u)]) st' a w vals B F S'∧Keeps vals B w st st') :
 ∀ {ls ls' : List L} {us : List Value} {fl : List (L × Value)} {st st' : St} {S : Nat → Nat → BS}, Rl G fl st a w vals B F S → Ols st vals B F w ls us → (mapL f ls).exec st = some (ls', st') →
   ∃ S',Rl G (fl ++ ls'.zip us) st' a w vals B F S'∧Keeps vals B w st st'∧ls'.length=us.length
 | [],ls',us,fl,st,st',S,h,ho,hx => by
   simp only [mapL] at hx
   obtain ⟨rfl,rfl⟩:=M.pure_some hx
   cases us with
   | nil => exact ⟨S,by simpa using h,.refl _ _ _ _,rfl⟩
   | cons => exact ho.elim
 | l::ls,ls',us,fl,st,st',S,h,ho,hx => by
   cases us with
   | nil => exact ho.elim
   | cons u us =>
     simp only [mapL] at hx
     obtain ⟨l1,st1,h1,h2⟩:=M.bind_some hx
     obtain ⟨ls1,st2,h3,h4⟩:=M.bind_some h2
     obtain ⟨rfl,rfl⟩:=M.pure_some h4
     obtain ⟨S1,g1,g2⟩:=hf h ho.1 h1
     obtain ⟨S2,g3,g4,g5⟩:=mapL_ok hf g1 (g2.ols ho.2) h3
     exact ⟨S2,by simpa using g3,g2.trans g4,by simp [g5]⟩
theorem unzip_map1 {ls:List L} {us:List Value} (h:ls.length=us.length):(ls.zip us).map (·.1)=ls:=List.map_fst_zip (by omega)
theorem unzip_map2 {ls:List L} {us:List Value} (h:ls.length=us.length):(ls.zip us).map (·.2)=us:=List.map_snd_zip (by omega)
theorem Rl.pushs : ∀ {ls : List L} {us : List Value} {fl : List (L × Value)} {S : Nat → Nat → BS}, Rl G fl st a w vals B F S → Ols st vals B F w ls us → ∃ S', Rl G (fl ++ ls.zip us) st a w vals B F S'
 | [],us,fl,S,h,ho => by
   cases us with
   | nil => exact ⟨S,by simpa using h⟩
   | cons => exact ho.elim
 | l::ls,us,fl,S,h,ho => by
   cases us with
   | nil => exact ho.elim
   | cons u us =>
     obtain ⟨S1,g1⟩:=Rl.pushs (h.push ho.1.1 ho.1.2) ho.2
     exact ⟨S1,by simpa using g1⟩
end
end GoV

/- What the interpreter's tables must say of the program; a value laid into a slot. -/
namespace GoV
open Go

def ZRep (l:L) (v:Value):Prop :=
 match l with
 | .d .fro (.int k) x => v=.int k x
 | .d .fro .bool x => v=.bool x
 | .nil _ => v=.slice none 0 0
 | .dead => True
 | _ => False
def isAggD : TypeDesc → Bool
 | .struct _ => true
 | .array _ _ => true
 | _ => false
def TKOK (P : Program) (E : Env) (d : TypeDesc) : TK → Prop
 | .int k => d=.int k
 | .bool => d=.bool
 | .slice e t => d=.slice e∧∃ ie,E.ti e=some ie∧ie.T=some t
 | .struct ps => ∃ fs, d = .struct fs ∧ ps.length = fs.size ∧ ∀ (i : Nat) (f : Field) (p : Nat × Nat × Bool), fs[i]? = some f → ps[i]? = some p →
  p.1=f.offset∧∃ q d',P.info? f.type=some q∧q.size=p.2.1∧q.size≠0∧P.underlying f.type=some d'∧isAggD d'=p.2.2
 | .arr m w ag => ∃ e,d=.array m e∧∃ q d',P.info? e=some q∧q.size=w∧P.underlying e=some d'∧isAggD d'=ag
 | .other => True
structure TIOK (P : Program) (E : Env) (t : TypeId) (i : TI) : Prop where
 info : ∃ q, P.info? t = some q ∧ q.size = i.n ∧ 0 < q.bytes ∧ q.bytes ≤ 4096 ∧ ∃ z, q.zero = some z ∧ z.cells.size = i.n ∧ (i.agg = false → z.cells = #[z]) ∧
  i.zs.length=i.n∧(∀ (k:Nat) (l:L) (u:Value),i.zs[k]?=some l→z.cells[k]?=some u→ZRep l u) ∧
  ∀ T,i.T=some T→T.size=i.n∧0<T.size∧RepD default T T.zero (fun k => z.cells.getD k undef) (fun _ => False)
 small:∀ q,P.info? t=some q→q.bytes≤64 * i.n
 ones:∀ q z,P.info? t=some q→q.zero=some z→Ones z.cells.toList
 und:∃ d,P.underlying t=some d∧isAggD d=i.agg∧TKOK P E d i.tk
def Alike : List Value → List Value → Prop
 | [],[] => True
 | .int k _::r,.int k' _::s => k=k'∧Alike r s
 | .bool _::r,.bool _::s => Alike r s
 | _,_ => False
def TypedL : List Ty → List Value → Prop
 | [],[] => True
 | .int k::ts,.int k' _::us => k=k'∧TypedL ts us
 | .bool::ts,.bool _::us => TypedL ts us
 | _,_ => False
def EqtOK (P : Program) (t : TypeId) (ts : List Ty) : Prop := ∀ (op : BinOp) (x y : Operand) (us vs : List Value) (w : World), op = .eql ∨ op = .neq → TypedL ts us → TypedL ts vs →
 ∃ b : Bool, (eqGuard op t x y (.agg us.toArray) (.agg vs.toArray)).run P w = .ok () w ∧ (b = true ↔ us = vs) ∧
   (binOp op t (.agg us.toArray) (.agg vs.toArray)).run P w=.ok (.bool (if op=.eql then b else !b)) w
def Vls (st : St) (vals : VS) (B : Nat → Nat) (F : FS) (w : World) : List Val → List Value → Prop
 | [],[] => True
 | v::vs,x::xs => (∃ us,Ols st vals B F w v.ls us∧VR v.sh us x∧Ones us)∧Vls st vals B F w vs xs
 | _,_ => False
def AdrOK (P:Program) (g:FuncId) (p:List Val→M L):Prop :=
 (∃ fn, P.funcs[g]? = some fn ∧ (fn.name == "runtime.NumGoroutine") = false ∧ fn.body.isSome = true) ∧
    ∀ (G : Ctx) (st st' : St) (a : Act) (w : World) (vals : VS) (B : Nat → Nat) (F : FS) (S : Nat → Nat → BS) (vs : List Val) (us : List Value) (l : L), Rl G [] st a w vals B F S → Vls st vals B F w vs us →
      (p vs).exec st=some (l,st')→st'=st∧Calls P g us.toArray w fun e w' => ∃ u,e=.returned u∧u.oneCell'=true∧Rl G [] st a w' vals B F S∧OL st vals B F w' l u
structure EnvOK (P : Program) (E : Env) : Prop where
 ti:∀ t i,E.ti t=some i→TIOK P E t i
 fns:∀ f fn,E.fns f=some fn→P.funcs[f]?=some fn
 mixed:P.follows .mixedOrders=true
 eqt:∀ t i T,E.eqt t=true→E.ti t=some i→i.T=some T→EqtOK P t (flatTs T)
 adr:∀ g p,E.adr g=some p→AdrOK P g p

section
variable {G:Ctx} {fl:List (L × Value)} {st st':St} {a:Act} {w w':World} {vals:VS} {B:Nat→Nat} {F:FS} {S:Nat→Nat→BS} {E:Env} {P:Program}

theorem Rl.drop (h:Rl G fl st a w vals B F S):Rl G [] st a w vals B F S:={ h with fleaf:=fun k l u hf => by simp at hf }
theorem Rl.rel (h:Rl G fl st a w vals B F S):Rel G fl st a w:=⟨vals,B,F,S,h⟩
theorem putD_ok {dst : Nat} {ck : CK} {ls : List L} {u : Unit} (hx : (putD dst ck ls).exec st = some (u, st')) :
 ∃ old,st[dst]?=some old∧old.pin=false∧st'=st.set dst ⟨ck,ls,false,!isNo old.ck || old.dl,!isNo old.ck || old.dp,0,0⟩:=by
 simp only [putD] at hx
 obtain ⟨old,st1,h1,h2⟩:=M.bind_some hx
 obtain ⟨ho,rfl⟩:=M.read_some h1
 obtain ⟨_,st2,h3,h4⟩:=M.bind_some h2
 obtain ⟨hp,rfl⟩:=M.must_some h3
 obtain ⟨_,rfl⟩:=M.write_some h4
 exact ⟨old,ho,by simpa using hp,rfl⟩
theorem dstV_ok {dst : Option Nat} {sh : Sh} {ls : List L} {us : List Value} {val : Value} {u : Unit} (h : Rl G (ls.zip us) st a w vals B F S) (hlen : ls.length = us.length) (hv : VR sh us val) (h1 : Ones us)
 (hx:(dstV dst ⟨sh,ls⟩).exec st=some (u,st')):Rel G [] st' (a.put dst val) w:=by
 cases dst with
 | none =>
   obtain ⟨_,rfl⟩:=M.pure_some hx
   exact h.drop.rel
 | some d =>
   obtain ⟨old,ho,hp,rfl⟩:=putD_ok hx
   have:=h.put (ck:=.val sh) (v:=val) (b:=0) (S0:=fun _ => False) ho hp (by
    simp only [CellOK,unzip_map1 hlen,unzip_map2 hlen]
    exact ⟨hlen.symm,hv,h1⟩) (fun _ h => h.elim)
   rw [unzip_map1 hlen] at this
   exact this.rel
def OpOK (P:Program) (o:Oper) (a:Act) (w:World) (R:Act→World→Prop):Prop:=∀ K Q,(∀ a' w',R a' w'→K a' w')→o.wp P a w K Q
theorem op_value {o:Oper} {v:Value} {R:Act→World→Prop} (h:(execOp a.eval o).run P w=.ok (.value v) w') (hr:R (a.put o.dst v) w'):OpOK P o a w R:=by
 intro K Q hk
 simp only [Oper.wp,h,Oper.upon_value]
 exact hk _ _ hr
theorem op_skip {o:Oper} {R:Act→World→Prop} (h:(execOp a.eval o).run P w=.ok .skip w') (hd:o.dst=none) (hr:R a w'):OpOK P o a w R:=by
 intro K Q hk
 simp only [Oper.wp,h,Oper.upon_skip,hd]
 exact hk _ _ hr
theorem sizeOf_run {t:TypeId} {q:TypeInfo} (h:P.info? t=some q):(Go.sizeOf t).run P w=.ok q.size w:=by
 simp [Go.sizeOf,typeInfo,h]
theorem underlying_run {t:TypeId} {d:TypeDesc} (h:P.underlying t=some d):(underlying t).run P w=.ok d w:=by
 simp [underlying,h]
theorem zeroValue_run {t:TypeId} {q:TypeInfo} {z:Value} (h:P.info? t=some q) (hz:q.zero=some z):(zeroValue t).run P w=.ok z w:=by
 simp [zeroValue,typeInfo,h,hz]
theorem isAgg_run {t:TypeId} {d:TypeDesc} (h:P.underlying t=some d):(isAgg t).run P w=.ok (isAggD d) w:=by
 simp only [isAgg,Sem.run_bind,underlying_run h,Result.andThen_ok]
 cases d <;> rfl

/-! ## Operations that turn a slot alone -/
theorem move_ok (h : Rl G [] st a w vals B F S) {o : Oper} {x : Operand} (ho : o.op = .move x) {u : Unit} (hx : (do dstV o.dst (← opnd E o.type x) : M Unit).exec st = some (u, st')) :
 OpOK P o a w fun a' w' => Rel G [] st' a' w':=by
 obtain ⟨v,st1,h1,h2⟩:=M.bind_some hx
 obtain ⟨rfl,us,hols,hv,hone⟩:=opnd_ok h h1
 obtain ⟨S',hp⟩:=h.pushs hols
 exact op_value (by rw [execOp,ho]; rfl) (dstV_ok hp hols.length.symm hv hone h2)
theorem assign_ok (h : Rl G [] st a w vals B F S) {o : Oper} {x : Operand} (ho : o.op = .assign x) {u : Unit}
 (hx:(do let v ← opnd E o.type x; let ls ← mapL keepL v.ls; dstV o.dst ⟨v.sh,ls⟩:M Unit).exec st=some (u,st')) :
 OpOK P o a w fun a' w' => Rel G [] st' a' w':=by
 obtain ⟨v,st1,h1,h2⟩:=M.bind_some hx
 obtain ⟨rfl,us,hols,hv,hone⟩:=opnd_ok h h1
 obtain ⟨ls,st2,h3,h4⟩:=M.bind_some h2
 obtain ⟨S',hp,hk,hlen⟩:=mapL_ok (fun h ho hx => keepL_ok h ho hx) h hols h3
 exact op_value (by rw [execOp,ho]; rfl) (dstV_ok hp hlen hv hone h4)
theorem dst1_ok (h : Rl G [] st a w vals B F S) {dst : Option Nat} {l : L} {val : Value} (ho : OL st vals B F w l val) (hone : val.oneCell' = true) {u : Unit} (hx : (dstV dst ⟨.one, [l]⟩).exec st = some (u, st')) :
 Rel G [] st' (a.put dst val) w:=by
 have hp:=h.push ho.1 ho.2
 exact dstV_ok (sh:=.one) (ls:=[l]) (us:=[val]) hp rfl rfl (by simpa [Ones] using hone) hx
theorem asBool_ok {l:L} {b:Bool} (hx:(asBool l).exec st=some (b,st')):st'=st∧∃ o,l=.d o .bool b:=by
 unfold asBool at hx
 split at hx
 · obtain ⟨rfl,rfl⟩:=M.pure_some hx; exact ⟨rfl,_,rfl⟩
 · exact (M.fail_some hx).elim
theorem asInt_ok {l:L} {x:Int} (hx:(GoV.asInt l).exec st=some (x,st')):st'=st∧∃ o k,l=.d o (.int k) x:=by
 unfold GoV.asInt at hx
 split at hx
 · obtain ⟨rfl,rfl⟩:=M.pure_some hx; exact ⟨rfl,_,_,rfl⟩
 · exact (M.fail_some hx).elim
theorem OL.int {o:Fl} {k:IntKind} {x:Int} {v:Value} (h:OL st vals B F w (.d o (.int k) x) v):v=.int k x:=by
 obtain ⟨h,_⟩:=h
 cases o <;> try exact h.elim
 cases h with
 | d _ _ _ _ h => exact h
theorem OL.bool {o:Fl} {x:Bool} {v:Value} (h:OL st vals B F w (.d o .bool x) v):v=.bool x:=by
 obtain ⟨h,_⟩:=h
 cases o <;> try exact h.elim
 cases h with
 | d _ _ _ _ h => exact h
theorem OL.ofInt {k:IntKind} {x:Int}:OL st vals B F w (.d .fro (.int k) x) (.int k x):=(CRep.d (.int k) x _ rfl (by simp [RepF])).ol
theorem OL.ofBool {x:Bool}:OL st vals B F w (.d .fro .bool x) (.bool x):=(CRep.d .bool x _ rfl (by simp [RepF])).ol
theorem pick_ok (h : Rl G [] st a w vals B F S) {o : Oper} {c x y : Operand} (ho : o.op = .pick c x y) {u : Unit}
 (hx:(do let q ← asBool (← opnd1 E 0 c); let l ← bif q then opnd1 E o.type x else opnd1 E o.type y; dstV o.dst ⟨.one,[l]⟩:M Unit).exec st=some (u,st')) :
 OpOK P o a w fun a' w' => Rel G [] st' a' w':=by
 obtain ⟨l,st1,h1,h2⟩:=M.bind_some hx
 obtain ⟨rfl,hl⟩:=opnd1_ok h h1
 obtain ⟨q,st2,h3,h4⟩:=M.bind_some h2
 obtain ⟨rfl,o',rfl⟩:=asBool_ok h3
 obtain ⟨va,st3,h5,h6⟩:=M.bind_some h4
 refine op_value (v:=if q then a.eval x else a.eval y) (w':=w) (by rw [execOp,ho]; simp [Go.asBool,hl.bool]) ?_
 cases q with
 | true =>
   have hone:=opnd1_one h h5
   obtain ⟨rfl,hva⟩:=opnd1_ok h h5
   exact dst1_ok h hva hone h6
 | false =>
   have hone:=opnd1_one h h5
   obtain ⟨rfl,hva⟩:=opnd1_ok h h5
   exact dst1_ok h hva hone h6
theorem unOp_ok (h : Rl G [] st a w vals B F S) {o : Oper} {op : UnOp} {t : TypeId} {x : Operand} (ho : o.op = .unOp op t x) {u : Unit}
 (hx : (do
  let l ← opnd1 E 0 x
  match op,l with
  | .not,.d _ .bool b => dstV o.dst ⟨.one,[.d .fro .bool (!b)]⟩
  | .neg,.d _ (.int k) n => dstV o.dst ⟨.one,[.d .fro (.int k) (k.wrap (0 - n))]⟩
  | _,_ => .fail:M Unit).exec st=some (u,st')) :
 OpOK P o a w fun a' w' => Rel G [] st' a' w':=by
 obtain ⟨l,st1,h1,h2⟩:=M.bind_some hx
 obtain ⟨rfl,hl⟩:=opnd1_ok h h1
 split at h2
 · refine op_value (w':=w) (by rw [execOp,ho]; simp [Op.unary,hl.bool]) (dst1_ok h .ofBool rfl h2)
 · refine op_value (w':=w) (by rw [execOp,ho]; simp [Op.unary,Op.intArith,hl.int]) (dst1_ok h .ofInt rfl h2)
 · exact (M.fail_some h2).elim
theorem convert_ok (hE : EnvOK P E) (h : Rl G [] st a w vals B F S) {o : Oper} {s t : TypeId} {x : Operand} (ho : o.op = .convert s t x) {u : Unit}
 (hx : (do
  let _ ← M.opt (E.ti s)
  match E.ti t with
  | some ⟨.int k, _, _, _, _⟩ => do
    let n ← GoV.asInt (← opnd1 E 0 x)
    dstV o.dst ⟨.one,[.d .fro (.int k) (k.wrap n)]⟩
  | _ => .fail:M Unit).exec st=some (u,st')) :
 OpOK P o a w fun a' w' => Rel G [] st' a' w':=by
 obtain ⟨is,st0,h0,hy⟩:=M.bind_some hx
 obtain ⟨his,rfl⟩:=M.opt_some h0
 obtain ⟨ds,hs,_,_⟩:=(hE.ti s _ his).und
 clear hx
 split at hy
 · rename_i k n ag T zs hti
   obtain ⟨l,st1,h1,h2⟩:=M.bind_some hy
   obtain ⟨rfl,hl⟩:=opnd1_ok h h1
   obtain ⟨n,st2,h3,h4⟩:=M.bind_some h2
   obtain ⟨rfl,o',k',rfl⟩:=asInt_ok h3
   obtain ⟨d,hd,_,htk⟩:=(hE.ti t _ hti).und
   simp only [TKOK] at htk
   subst htk
   refine op_value (w':=w) (v:=.int k (k.wrap n)) (by rw [execOp,ho]; simp [convert,underlying_run hs,underlying_run hd,hl.int,Conv.intToInt]) (dst1_ok h .ofInt rfl h4)
 · exact (M.fail_some hy).elim
end
end GoV

/- A statement's end: links to what has turned fall away. -/
namespace GoV
open Go

section
variable {G:Ctx} {fl:List (L × Value)} {st st':St} {a:Act} {w w':World} {vals:VS} {B:Nat→Nat} {F F':FS} {S:Nat→Nat→BS} {E:Env} {P:Program}

/-! ## A statement's end -/
def dropOne (keep:Option (List Nat)) (i:Nat) (c:Cell):Cell :=
 if c.pin then c else match keep with
    | none => c
    | some l => if l.contains i then c else Cell.none
theorem dropC_get (keep : Option (List Nat)) : ∀ (i : Nat) (st : St) (j : Nat), (dropC keep i st)[j]? = st[j]?.map (dropOne keep (i + j))
 | _,[],j => by simp [dropC]
 | i,c::r,0 => by simp only [dropC,List.getElem?_cons_zero,Option.map_some,Nat.add_zero]; rfl
 | i,c::r,j+1 => by
   simp only [dropC,List.getElem?_cons_succ]
   rw [dropC_get keep (i+1) r j,Nat.add_right_comm,Nat.add_assoc]
theorem dropC_length (keep : Option (List Nat)) : ∀ (i : Nat) (st : St), (dropC keep i st).length = st.length
 | _,[] => rfl
 | i,c::r => by simp [dropC,dropC_length keep (i+1) r]
theorem dropOne_or (keep:Option (List Nat)) (i:Nat) (c:Cell):dropOne keep i c=c∨(dropOne keep i c=Cell.none∧c.pin=false):=by
 unfold dropOne
 split
 · exact .inl rfl
 · rename_i hp
   split
   · exact .inl rfl
   · split
     · exact .inl rfl
     · exact .inr ⟨rfl,by simpa using hp⟩
def endOne (st1:St) (c:Cell):Cell:=⟨c.ck,c.ls.map (aliveL st1),c.pin,false,false,0,0⟩
theorem CRep.alive {l:L} {u:Value} (h:CRep F w l u) (st:St):aliveL st l=l:=by
 cases h <;> rfl
theorem alive_or (st:St) (l:L):aliveL st l=l∨aliveL st l=.dead:=by
 cases l <;> simp only [aliveL] <;> first | exact .inl trivial | skip
 all_goals
  split
  · split <;> simp
  · simp
theorem LinkOK.alive {st1 st2 : St} (h1 : ∀ i : Nat, ∃ f : Cell → Cell, st1[i]? = st[i]?.map f ∧ ∀ c, f c = c ∨ f c = Cell.none) (h2 : ∀ (i : Nat) (c1 : Cell), st1[i]? = some c1 → isNo c1.ck = false → st2[i]? = some (endOne st1 c1))
 {l:L} {u:Value} (hk:LinkOK st vals B w l u):LinkOK st2 vals B w (aliveL st1 l) u:=by
 have here:∀ {r:Nat} {c1:Cell},st1[r]?=some c1→isNo c1.ck=false→st[r]?=some c1∧st2[r]?=some (endOne st1 c1):=by
  intro r c1 hc hn
  refine ⟨?_,h2 r c1 hc hn⟩
  obtain ⟨f,hf,hf'⟩:=h1 r
  rw [hf] at hc
  obtain ⟨c,g1,g2⟩:=Option.map_eq_some_iff.1 hc
  rcases hf' c with e | e
  · rw [e] at g2; subst g2
    exact g1
  · rw [e] at g2; subst g2
    cases hn
 have heads:∀ {p:Pl} {c1:Cell},st1[p.r]?=some c1→c1.fits p=true→(Gone st p→Gone st2 p)∧∀ t n hv,PlHd st vals w p t n hv→PlHd st2 vals w p t n hv:=by
  intro p c1 hc hfit
  simp only [Cell.fits,Bool.and_eq_true,Bool.not_eq_true'] at hfit
  obtain ⟨⟨⟨f1,f2⟩,f3⟩,f4⟩:=hfit
  obtain ⟨g1,g2⟩:=here hc f1
  refine ⟨?_, ?_⟩
  · rintro ⟨c, hcc, ht⟩
    rw [g1] at hcc
    obtain rfl:=Option.some.inj hcc
    refine ⟨_,g2,.inr (.inr (.inl ?_))⟩
    rcases ht with h | h | h | ⟨s,h,h'⟩
    · rw [f2] at h; cases h
    · rw [f3] at h; cases h
    · simp [endOne,h,aliveL]
    · rw [h] at f4
      simp only [Bool.not_eq_true'] at f4
      rw [f4] at h'; cases h'
  · rintro t n hv ⟨c, o, t0, x0, h0, hcc, hl, hm⟩
    rw [g1] at hcc
    obtain rfl:=Option.some.inj hcc
    refine ⟨_,o,t0,x0,h0,g2, ?_,hm⟩
    rcases hl with hl | ⟨e,jh,ih,hl⟩
    · exact .inl (by simp [endOne,hl,aliveL])
    · exact .inr ⟨e,jh,ih,by simp [endOne,hl,aliveL]⟩
 cases l with
 | lent p rg =>
   simp only [aliveL]
   split
   · rename_i c1 hc
     split
     · rename_i hf
       obtain ⟨k1,k2⟩:=heads hc hf
       exact hk.imp k1 fun ⟨t,n,hv,h,hu⟩ => ⟨t,n,hv,k2 _ _ _ h,hu⟩
     · trivial
   · trivial
 | eptr p j o =>
   simp only [aliveL]
   split
   · rename_i c1 hc
     split
     · rename_i hf
       obtain ⟨k1,k2⟩:=heads hc hf
       exact hk.imp k1 fun ⟨t,n,b,off,C,h,hu⟩ => ⟨t,n,b,off,C,k2 _ _ _ h,hu⟩
     · trivial
   · trivial
 | ptr r o =>
   simp only [aliveL]
   split
   · rename_i c1 hc
     split
     · trivial
     · rename_i hf
       simp only [Bool.or_eq_true,not_or,Bool.not_eq_true] at hf
       obtain ⟨g1,g2⟩:=here hc hf.1
       obtain ⟨c,hcc,h⟩:=hk
       rw [g1] at hcc
       obtain rfl:=Option.some.inj hcc
       rcases h with h | ⟨z,hz,hu⟩
       · rw [hf.2] at h; cases h
       · exact ⟨_,g2,.inr ⟨z,hz,hu⟩⟩
   · trivial
 | _ => trivial
theorem Rl.endR (h:Rl G [] st a w vals B F S) (keep:Option (List Nat)):Rl G [] (GoV.endR keep st) a w vals B F S:=by
 have h1:∀ i:Nat,(dropC keep 0 st)[i]?=st[i]?.map (dropOne keep i):=fun i => by rw [dropC_get,Nat.zero_add]
 have h2:∀ i:Nat,(GoV.endR keep st)[i]?=(dropC keep 0 st)[i]?.map (endOne (dropC keep 0 st)):=fun i => by simp [GoV.endR]; rfl
 have hlen:(GoV.endR keep st).length=st.length:=by simp [GoV.endR,dropC_length]
 have cellAt':∀ {i c'},(GoV.endR keep st)[i]?=some c'→∃ c,st[i]?=some c∧c'=endOne (dropC keep 0 st) (dropOne keep i c):=by
  intro i c' hc
  rw [h2,h1] at hc
  cases hs:st[i]? with
  | none => simp [hs] at hc
  | some c => simp [hs] at hc; exact ⟨c,rfl,hc.symm⟩
 have link:∀ {l u},LinkOK st vals B w l u→LinkOK (GoV.endR keep st) vals B w (aliveL (dropC keep 0 st) l) u:=fun hk =>
  hk.alive (fun i => ⟨dropOne keep i,h1 i,fun c => (dropOne_or keep i c).imp id And.left⟩) fun i c1 hc _ => by rw [h2,hc,Option.map_some]
 refine { h with sz:=by rw [hlen]; exact h.sz,cell:=fun i c' hc => ?_,leaf:=fun i c' k l u hc hl hu => ?_,fleaf:=fun k l u hf => by simp at hf,pin:=fun i c' hc hp => ?_ }
 · obtain ⟨c, hs, rfl⟩ := cellAt' hc
   have hcell:=h.cell i c hs
   rcases dropOne_or keep i c with e | ⟨e,_⟩
   · rw [e]
     unfold CellOK at hcell ⊢
     simp only [endOne]
     split <;> rename_i hck <;> simp only [hck] at hcell
     · simp [hcell.1]
     · exact ⟨by simpa using hcell.1,hcell.2⟩
     · exact ⟨by simpa using hcell.1,hcell.2⟩
     · obtain ⟨g1, g2, g3, g4, g5⟩ := hcell
       refine ⟨by simpa using g1,g2,g3,fun k l u hl hu => ?_,g5⟩
       rw [List.getElem?_map] at hl
       obtain ⟨l0,hl0,rfl⟩:=Option.map_eq_some_iff.1 hl
       have:=g4 k l0 u hl0 hu
       rw [this.alive]
       exact this
   · rw [e]
     simp [CellOK,endOne,Cell.none]
 · obtain ⟨c, hs, rfl⟩ := cellAt' hc
   rcases dropOne_or keep i c with e | ⟨e,_⟩
   · rw [e] at hl
     simp only [endOne] at hl
     rw [List.getElem?_map] at hl
     obtain ⟨l0,hl0,rfl⟩:=Option.map_eq_some_iff.1 hl
     obtain ⟨g1,g2⟩:=h.leaf i c k l0 u hs hl0 hu
     refine ⟨?_,link g2⟩
     rcases alive_or (dropC keep 0 st) l0 with e | e <;> rw [e]
     · exact g1
     · trivial
   · rw [e] at hl
     simp [endOne,Cell.none] at hl
 · obtain ⟨c, hs, rfl⟩ := cellAt' hc
   rcases dropOne_or keep i c with e | ⟨e,_⟩
   · rw [e] at hp
     exact h.pin i c hs hp
   · rw [e] at hp
     simp [endOne,Cell.none] at hp
theorem Rl.midR (h:Rl G [] st a w vals B F S):Rl G [] (GoV.midR st) a w vals B F S:=by
 have h2:∀ (i:Nat),(GoV.midR st)[i]?=st[i]?.map fun c => bif isNo c.ck then c else endOne st c:=fun i => by simp only [GoV.midR,List.getElem?_map]; rfl
 have hlen:(GoV.midR st).length=st.length:=by simp [GoV.midR]
 have cellAt':∀ {i:Nat} {c':Cell},(GoV.midR st)[i]?=some c'→∃ c:Cell,st[i]?=some c∧((isNo c.ck=true∧c'=c)∨(isNo c.ck=false∧c'=endOne st c)):=by
  intro i c' hc
  rw [h2] at hc
  obtain ⟨c,g1,g2⟩:=Option.map_eq_some_iff.1 hc
  refine ⟨c,g1, ?_⟩
  cases hn:isNo c.ck with
  | true => rw [hn] at g2; exact .inl ⟨rfl,g2.symm⟩
  | false => rw [hn] at g2; exact .inr ⟨rfl,g2.symm⟩
 have link:∀ {l u},LinkOK st vals B w l u→LinkOK (GoV.midR st) vals B w (aliveL st l) u:=fun hk =>
  hk.alive (st1:=st) (fun i => ⟨id,by simp,fun c => .inl rfl⟩) fun i c1 hc hn => by rw [h2,hc,Option.map_some,hn]; rfl
 refine { h with sz:=by rw [hlen]; exact h.sz,cell:=fun i c' hc => ?_,leaf:=fun i c' k l u hc hl hu => ?_,fleaf:=fun k l u hf => by simp at hf,pin:=fun i c' hc hp => ?_ }
 · obtain ⟨c, hs, ⟨hn, rfl⟩ | ⟨hn, rfl⟩⟩ := cellAt' hc
   · exact h.cell i c' hs
   · have hcell := h.cell i c hs
     unfold CellOK at hcell ⊢
     simp only [endOne]
     split <;> rename_i hck <;> simp only [hck] at hcell
     · simp [hcell.1]
     · exact ⟨by simpa using hcell.1,hcell.2⟩
     · exact ⟨by simpa using hcell.1,hcell.2⟩
     · obtain ⟨g1, g2, g3, g4, g5⟩ := hcell
       refine ⟨by simpa using g1,g2,g3,fun k l u hl hu => ?_,g5⟩
       rw [List.getElem?_map] at hl
       obtain ⟨l0,hl0,rfl⟩:=Option.map_eq_some_iff.1 hl
       have:=g4 k l0 u hl0 hu
       rw [this.alive]
       exact this
 · obtain ⟨c, hs, ⟨hn, rfl⟩ | ⟨hn, rfl⟩⟩ := cellAt' hc
   · exfalso
     have:=h.cell i c' hs
     unfold CellOK at this
     split at this
     · rw [this.1] at hl; simp at hl
     all_goals
        rename_i hck
        rw [hck] at hn
        cases hn
   · simp only [endOne] at hl
     rw [List.getElem?_map] at hl
     obtain ⟨l0,hl0,rfl⟩:=Option.map_eq_some_iff.1 hl
     obtain ⟨g1,g2⟩:=h.leaf i c k l0 u hs hl0 hu
     refine ⟨?_,link g2⟩
     rcases alive_or st l0 with e | e <;> rw [e]
     · exact g1
     · trivial
 · obtain ⟨c, hs, ⟨hn, rfl⟩ | ⟨hn, rfl⟩⟩ := cellAt' hc
   · exact h.pin i c' hs hp
   · exact h.pin i c hs hp
theorem Rel.mid (h:Rel G [] st a w) (m:Bool):Rel G [] (bif m then GoV.midR st else st) a w:=by
 cases m with
 | false => exact h
 | true =>
   obtain ⟨vals,B,F,S,h⟩:=h
   exact ⟨vals,B,F,S,h.midR⟩
theorem Rel.endR (h:Rel G [] st a w) (keep:Option (List Nat)):Rel G [] (GoV.endR keep st) a w:=by
 obtain ⟨vals,B,F,S,h⟩:=h
 exact ⟨vals,B,F,S,h.endR keep⟩

end
end GoV

/- Statements: operations one behind the other, in whatever order is drawn. -/
namespace GoV
open Go

def opM (E:Env) (call:CallT) (np:Nat) (soft:Bool) (ops:Array Oper) (o:Oper):M Unit :=
 match guardOf ops o with
 | none => vop E call np soft o
 | some (none,_) => .fail
 | some (some s, b) => .get s fun c => match boolC c with
   | none => .fail
   | some none => skipM o.dst
   | some (some x) => if x=b then vop E call np soft o else skipM o.dst

section
variable {E:Env} {call:CallT} {np:Nat} {soft:Bool} {ops:Array Oper}

theorem setBool_id {st:St} {s:Nat} {x:Bool} (h:boolAt st s=some (some x)):setBool st s x=st:=by
 unfold boolAt at h
 split at h
 · rename_i c hc
   unfold boolC at h
   split at h
   · simp at h; subst h
     simp only [setBool,hc]
     apply List.ext_getElem?
     intro i
     rw [get_set (get_lt hc)]
     split
     · rename_i e; subst e; exact hc.symm
     · rfl
   · simp at h
   · cases h
 · cases h
theorem opM_yes {o : Oper} {st st' : St} (hg : guardOf ops o = none) (h : (vop E call np soft o).exec st = some ((), st')) :
 (opM E call np soft ops o).exec st=some ((),st')∧(opM E call np soft ops o).foot st=(vop E call np soft o).foot st:=by
 simp only [opM,hg]
 exact ⟨h,trivial⟩
theorem opM_get {o : Oper} {st : St} {s : Nat} {b : Bool} {v : Option Bool} (hg : guardOf ops o = some (some s, b)) (hb : boolAt st s = some v) :
 (opM E call np soft ops o).exec st=(match v with | none => skipM o.dst | some x => if x=b then vop E call np soft o else skipM o.dst:M Unit).exec st ∧
 (opM E call np soft ops o).foot st=(let q:=(match v with | none => skipM o.dst | some x => if x=b then vop E call np soft o else skipM o.dst:M Unit).foot st; ((s,0)::q.1,q.2)):=by
 unfold boolAt at hb
 split at hb
 · rename_i c hc
   simp only [opM,hg,M.exec,M.foot,hc,hb]
   cases v <;> exact ⟨rfl,rfl⟩
 · cases hb
theorem opsE_cons {mid : Bool} {o : Oper} {r : List Oper} {K : St → Option R} {st : St} {y : R} (h : opsE E call np soft mid ops (o :: r) K st = some y) :
 ∃ st',(opM E call np soft ops o).exec st=some ((),st')∧opsE E call np soft mid ops r K (bif mid then midR st' else st')=some y:=by
 simp only [opsE] at h
 have fin:∀ {m:M Unit} {st:St},(m.runK st fun _ st' _ => opsE E call np soft mid ops r K (bif mid then midR st' else st'))=some y→∃ st',m.exec st=some ((),st')∧opsE E call np soft mid ops r K (bif mid then midR st' else st')=some y:=by
  intro m st h
  rw [M.runK_eq] at h
  split at h
  · rename_i st' hm; exact ⟨st',hm,h⟩
  · cases h
 split at h
 · rename_i hg
   obtain ⟨st',h1,h2⟩:=fin h
   exact ⟨st',(opM_yes hg h1).1,h2⟩
 · cases h
 · rename_i s b hg
   split at h
   · cases h
   · rename_i hb
     obtain ⟨st',h1,h2⟩:=fin h
     exact ⟨st',by rw [(opM_get hg hb).1]; exact h1,h2⟩
   · rename_i x hb
     have e:=setBool_id hb
     have key:∃ st',(if x=b then vop E call np soft o else skipM o.dst).exec st=some ((),st')∧opsE E call np soft mid ops r K (bif mid then midR st' else st')=some y:=by
        cases x <;> cases b <;> simp only [cond_true,cond_false,if_true,if_false,Bool.false_eq_true,reduceCtorEq] at h ⊢ <;> rw [e] at h <;> exact fin h
     obtain ⟨st',h1,h2⟩:=key
     exact ⟨st',by rw [(opM_get hg hb).1]; exact h1,h2⟩
theorem opsD_cons {i : Nat} {o : Oper} {r : List Oper} {log : List (Nat × (List (Nat × Nat) × List (Nat × Nat)))} {K : St → Option R} {st : St} {y : R}
 (h:opsD E call np soft ops i (o::r) log K st=some y) :
 ∃ st',(opM E call np soft ops o).exec st=some ((),st')∧opsD E call np soft ops (i+1) r ((i,(opM E call np soft ops o).foot st)::log) K st'=some y:=by
 simp only [opsD] at h
 have fin : ∀ {m : M Unit} {st : St} {g : List (Nat × Nat)}, (m.runK st fun _ st' f => opsD E call np soft ops (i + 1) r ((i, (g ++ f.1, f.2)) :: log) K st') = some y →
  ∃ st',m.exec st=some ((),st')∧opsD E call np soft ops (i+1) r ((i,(g ++ (m.foot st).1,(m.foot st).2))::log) K st'=some y:=by
  intro m st g h
  rw [M.runK_eq] at h
  split at h
  · rename_i st' hm; exact ⟨st',hm,h⟩
  · cases h
 split at h
 · rename_i hg
   obtain ⟨st',h1,h2⟩:=fin h
   obtain ⟨g1,g2⟩:=opM_yes hg h1
   exact ⟨st',g1,by rw [g2]; simpa using h2⟩
 · cases h
 · rename_i s b hg
   split at h
   · cases h
   · rename_i hb
     obtain ⟨st',h1,h2⟩:=fin h
     obtain ⟨g1,g2⟩:=opM_get (E:=E) (call:=call) (np:=np) (soft:=soft) hg hb
     exact ⟨st',by rw [g1]; exact h1,by rw [g2]; simpa using h2⟩
   · rename_i x hb
     have e:=setBool_id hb
     obtain ⟨g1,g2⟩:=opM_get (E:=E) (call:=call) (np:=np) (soft:=soft) hg hb
     have key : ∃ st', (if x = b then vop E call np soft o else skipM o.dst).exec st = some ((), st') ∧
      opsD E call np soft ops (i+1) r ((i,([(s,0)] ++ ((if x=b then vop E call np soft o else skipM o.dst).foot st).1,((if x=b then vop E call np soft o else skipM o.dst).foot st).2))::log) K st'=some y:=by
        cases x <;> cases b <;> simp only [cond_true,cond_false,if_true,if_false,Bool.false_eq_true,reduceCtorEq] at h ⊢ <;> rw [e] at h <;> exact fin h
     obtain ⟨st',h1,h2⟩:=key
     exact ⟨st',by rw [g1]; exact h1,by rw [g2]; simpa using h2⟩

/-! ## A run of operations, with what each has read and written -/
abbrev Foot:=List (Nat × Nat) × List (Nat × Nat)
def Run (E : Env) (call : CallT) (np : Nat) (soft : Bool) (ops : Array Oper) : List (Nat × Oper × Foot) → St → St → Prop
 | [],st,st' => st'=st
 | (_,o,f)::r,st,st' => ∃ st1,(opM E call np soft ops o).exec st=some ((),st1)∧(opM E call np soft ops o).foot st=f∧Run E call np soft ops r st1 st'
theorem Run.front : ∀ {pre : List (Nat × Oper × Foot)} {i : Nat} {o : Oper} {f : Foot} {post : List (Nat × Oper × Foot)} {st st' : St}, Run E call np soft ops (pre ++ (i, o, f) :: post) st st' →
 (∀ q,q∈pre→clash q.2.2 f=false)→Run E call np soft ops ((i,o,f)::(pre ++ post)) st st'
 | [],i,o,f,post,st,st',h,_ => h
 | (j,p,g)::pre,i,o,f,post,st,st',h,hc => by
   obtain ⟨st1,h1,h2,h3⟩:=h
   obtain ⟨st2,h4,h5,h6⟩:=Run.front h3 fun q hq => hc q (List.mem_cons_of_mem _ hq)
   have hcl:=hc (j,p,g) (by simp)
   simp only at hcl
   rw [← h2,← h5] at hcl
   obtain ⟨st3,g1,g2,g3,g4⟩:=M.swap h1 h4 hcl
   exact ⟨st3,g1,g3.trans h5,st2,g2,g4.trans h2,h6⟩
theorem opsD_run : ∀ {r : List Oper} {i : Nat} {log : List (Nat × Foot)} {K : St → Option R} {st : St} {y : R}, opsD E call np soft ops i r log K st = some y →
 ∃ (q : List (Nat × Oper × Foot)) (st' : St), Run E call np soft ops q st st' ∧ q.map (fun x => (x.1, x.2.1)) = (r.zipIdx i).map (fun x => (x.2, x.1)) ∧ ordOk ops = true ∧
   pairsOk (Region.before ops) (log.reverse ++ q.map fun x => (x.1,x.2.2))=true∧K st'=some y
 | [],i,log,K,st,y,h => by
   simp only [opsD] at h
   split at h
   · rename_i hc
     simp only [Bool.and_eq_true] at hc
     exact ⟨[],st,rfl,rfl,hc.1,by simpa using hc.2,h⟩
   · cases h
 | o::r,i,log,K,st,y,h => by
   obtain ⟨st1,h1,h2⟩:=opsD_cons h
   obtain ⟨q,st',g1,g2,g3,g4,g5⟩:=opsD_run h2
   refine ⟨(i,o,(opM E call np soft ops o).foot st)::q,st',⟨st1,h1,rfl,g1⟩, ?_,g3, ?_,g5⟩
   · simp [g2]
   · simpa using g4
end

/-! ## The order that is laid down -/
def Closed (ops:Array Oper) (X:Nat→Prop):Prop:=∀ i o,ops[i]?=some o→X i→∀ e,e∈o.after.toList→Region.binds .any e=true→X e.on
theorem fold_bits (acc : Nat → Nat) : ∀ (es : List Edge) (s j : Nat), (es.foldl (fun s e => if Region.binds .any e then s ||| 2 ^ e.on ||| acc e.on else s) s).testBit j = true →
 s.testBit j=true∨∃ e,e∈es∧Region.binds .any e=true∧(j=e.on∨(acc e.on).testBit j=true)
 | [],s,j,h => .inl h
 | e::es,s,j,h => by
   simp only [List.foldl_cons] at h
   rcases fold_bits acc es _ j h with h | ⟨e',h1,h2⟩
   · split at h
     · rename_i hb
       simp only [Nat.testBit_or,Bool.or_eq_true,Nat.testBit_two_pow,decide_eq_true_eq] at h
       rcases h with (h | h) | h
       · exact .inl h
       · exact .inr ⟨e,by simp,hb,.inl h.symm⟩
       · exact .inr ⟨e,by simp,hb,.inr h⟩
     · exact .inl h
   · exact .inr ⟨e',List.mem_cons_of_mem _ h1,h2⟩
theorem before_closed {ops:Array Oper} {X:Nat→Prop} (hX:Closed ops X) {i j:Nat} (hi:X i) (h:((Region.before ops).getD i 0).testBit j=true):X j:=by
 unfold Region.before at h
 rw [← Array.foldl_toList] at h
 have key : ∀ (l : List Oper) (acc : Array Nat), (∀ (k : Nat) (o : Oper), l[k]? = some o → ops[acc.size + k]? = some o) → (∀ k, X k → ∀ j, (acc.getD k 0).testBit j = true → X j) →
  ∀ k,X k→∀ j,((l.foldl (init:=acc) fun acc o => acc.push (o.after.foldl (fun s e => if Region.binds .any e then s ||| 2 ^ e.on ||| acc.getD e.on 0 else s) 0)).getD k 0).testBit j=true→X j:=by
  intro l
  induction l with
  | nil => intro acc _ h; exact h
  | cons o l ih =>
    intro acc h1 h2
    simp only [List.foldl_cons]
    refine ih _ (fun k o' hk => ?_) (fun k hk j hj => ?_)
    · have := h1 (k + 1) o' (by simpa using hk)
      rw [Array.size_push,Nat.add_assoc,Nat.add_comm 1 k]
      exact this
    · by_cases e : k = acc.size
      · subst e
        rw [Array.getD_eq_getD_getElem?,Array.getElem?_push_size,Option.getD_some,← Array.foldl_toList] at hj
        rcases fold_bits (fun i => acc.getD i 0) _ _ _ hj with hj | ⟨e,he,hb,hj⟩
        · simp at hj
        · have hon : X e.on := hX _ o (h1 0 o rfl) hk e he hb
          rcases hj with rfl | hj
          · exact hon
          · exact h2 _ hon _ hj
      · refine h2 k hk j ?_
        rw [Array.getD_eq_getD_getElem?,Array.getElem?_push,if_neg e,← Array.getD_eq_getD_getElem?] at hj
        exact hj
 exact key ops.toList #[] (fun k o hk => by simpa using hk) (fun k _ j hj => by simp at hj) i hi j h
theorem pairsOk_cons {bef:Array Nat} {i:Nat} {f:Foot} {r:List (Nat × Foot)} (h:pairsOk bef ((i,f)::r)=true):pairsOk bef r=true:=by
 simp only [pairsOk,Bool.and_eq_true] at h
 exact h.2
theorem pairsOk_mid {bef : Array Nat} : ∀ {pre : List (Nat × Foot)} {i : Nat} {f : Foot} {post : List (Nat × Foot)}, pairsOk bef (pre ++ (i, f) :: post) = true →
 (∀ q,q∈pre→clash q.2 f=false∨(bef.getD i 0).testBit q.1=true)∧pairsOk bef (pre ++ post)=true
 | [],i,f,post,h => ⟨by simp,pairsOk_cons h⟩
 | (j,g)::pre,i,f,post,h => by
   simp only [List.cons_append,pairsOk,Bool.and_eq_true,List.all_eq_true] at h ⊢
   obtain ⟨h1,h2⟩:=h
   obtain ⟨g1,g2⟩:=pairsOk_mid h2
   refine ⟨fun q hq => ?_,fun q hq => h1 q ?_,g2⟩
   · rcases List.mem_cons.1 hq with rfl | hq
     · have := h1 (i, f) (by simp)
       simp only [Bool.or_eq_true,Bool.not_eq_true'] at this
       exact this
     · exact g1 q hq
   · simp only [List.mem_append, List.mem_cons] at hq ⊢
     rcases hq with hq | hq
     · exact .inl hq
     · exact .inr (.inr hq)

section
variable {E:Env} {call:CallT} {np:Nat} {soft:Bool} {ops:Array Oper} {P:Program} {G:Ctx}

def StepsOK (P:Program) (E:Env) (call:CallT) (np:Nat) (soft:Bool) (G:Ctx):Prop :=
 ∀ (st st':St) (a:Act) (w:World) (o:Oper),Rel G [] st a w→(vop E call np soft o).exec st=some ((),st')→OpOK P o a w fun a' w' => Rel G [] st' a' w'

theorem Rel.guard {st:St} {a:Act} {w:World} {s:Nat} {v:Option Bool} (h:Rel G [] st a w) (hb:boolAt st s=some v):a.tmps[s]?=some (match v with | some x => .bool x | none => undef):=by
 obtain ⟨vals,B,F,S,h⟩:=h
 unfold boolAt at hb
 split at hb
 · rename_i c hc
   have hlt:s<a.tmps.size:=by rw [h.sz]; exact get_lt hc
   have hcell:=h.cell s c hc
   have hgd:a.tmps[s]?=some (a.tmps.getD s undef):=by simp [Array.getD,hlt]
   rw [hgd]
   congr 1
   unfold boolC at hb
   split at hb
   · rename_i fl x p dl dp ds es
     simp at hb; subst hb
     simp only [CellOK] at hcell
     obtain ⟨h1,h2,_⟩:=hcell
     simp only [VR] at h2
     obtain ⟨g1,_⟩:=h.leaf s _ 0 _ _ hc rfl (by rw [h2]; rfl)
     exact OL.bool (F:=F) (w:=w) (st:=st) (vals:=vals) (B:=B) (o:=fl) ⟨by
        cases fl <;> first | exact g1.elim | exact g1,trivial⟩
   · simp at hb; subst hb
     simp only [CellOK] at hcell
     exact hcell.2.2.2 trivial
   · cases hb
 · cases hb
theorem Rl.cellLe {fl : List (L × Value)} {st : St} {a : Act} {w : World} {vals : VS} {B : Nat → Nat} {F : FS} {S : Nat → Nat → BS} (h : Rl G fl st a w vals B F S) {d : Nat} {c c' : Cell} (hc : st[d]? = some c)
 (hle:CellLe c c') (hls:c'.ls=c.ls) (hpin:c'.pin=c.pin) (hok:CellOK F w (vals d) (B d) (S d 0) c' (a.tmps.getD d undef)):Rl G fl (st.set d c') a w vals B F S:=by
 have hlt:=get_lt hc
 have hlen:(st.set d c').length=st.length:=by simp
 refine { h with sz:=by rw [hlen]; exact h.sz,cell:=fun i q hq => ?_,leaf:=fun i q k l u hq hl hu => ?_,fleaf:=fun k l u hf => ?_,pin:=fun i q hq hp => ?_ }
 · rw [get_set hlt] at hq
   split at hq
   · rename_i e; subst e
     obtain rfl:=Option.some.inj hq
     exact hok
   · exact h.cell i q hq
 · rw [get_set hlt] at hq
   split at hq
   · rename_i e; subst e
     obtain rfl:=Option.some.inj hq
     rw [hls] at hl
     obtain ⟨g1,g2⟩:=h.leaf d c k l u hc hl hu
     exact ⟨g1,g2.set hc hle⟩
   · obtain ⟨g1, g2⟩ := h.leaf i q k l u hq hl hu
     exact ⟨g1,g2.set hc hle⟩
 · rw [hlen]
   obtain ⟨g1,g2⟩:=h.fleaf k l u hf
   exact ⟨g1,g2.set hc hle⟩
 · rw [get_set hlt] at hq
   split at hq
   · rename_i e; subst e
     obtain rfl:=Option.some.inj hq
     exact h.pin d c hc (hpin ▸ hp)
   · exact h.pin i q hq hp
theorem Rel.skip {st st':St} {a:Act} {w:World} {dst:Option Nat} (h:Rel G [] st a w) (hx:(skipM dst).exec st=some ((),st')):Rel G [] st' (a.put dst undef) w:=by
 obtain ⟨vals,B,F,S,h⟩:=h
 cases dst with
 | none =>
   obtain ⟨_,rfl⟩:=M.pure_some hx
   exact h.rel
 | some d =>
   simp only [skipM] at hx
   obtain ⟨old,st1,h1,h2⟩:=M.bind_some hx
   obtain ⟨ho,rfl⟩:=M.read_some h1
   obtain ⟨_,st2,h3,h4⟩:=M.bind_some h2
   obtain ⟨hp,rfl⟩:=M.must_some h3
   obtain ⟨hlt,rfl⟩:=M.write_some h4
   have h5:=h.put (ck:=.no) (v:=undef) (b:=0) (S0:=fun _ => False) ho (by simpa using hp) (by simp [CellOK]) (fun _ h => h.elim)
   have h6:=h5.cellLe (d:=d) (c:=⟨.no,[],false,!isNo old.ck || old.dl,!isNo old.ck || old.dp,0,0⟩) (c':=⟨.no,[],false,true,true,0,0⟩) (by rw [get_set hlt]; simp) ?_ rfl rfl ?_
   · rw [List.set_set] at h6
     exact h6.rel
   · exact ⟨fun z hz => by simp at hz,fun _ => rfl,fun _ => rfl,fun k hk => by simp at hk,fun k i hk => by simp [esAt] at hk,.inl rfl⟩
   · simp only [CellOK]
     refine ⟨trivial,trivial,trivial,fun _ => ?_⟩
     rw [getD_put (by rw [h.sz]; exact hlt)]
     simp
theorem opM_ok {Q : Exit → Act → World → Prop} (hs : StepsOK P E call np soft G) {st st' : St} {a : Act} {w : World} {i : Nat} {o : Oper} (hi : ops[i]? = some o) (h : Rel G [] st a w)
 (hx:(opM E call np soft ops o).exec st=some ((),st')) {K:Act→World→Prop} (hK:∀ a' w',Rel G [] st' a' w'→K a' w'):wpOp P ops Q i K a w:=by
 simp only [wpOp,hi]
 cases hg:o.guard with
 | none =>
   have hg':guardOf ops o=none:=by simp [guardOf,hg]
   simp only [opM,hg'] at hx
   rw [if_pos (by simp [Region.wanted,hg])]
   exact .inl (hs st st' a w o h hx K Q hK)
 | some q =>
   obtain ⟨j,b⟩:=q
   have hg':guardOf ops o=some ((ops[j]?).bind (·.dst),b):=by simp [guardOf,hg]
   cases hd:(ops[j]?).bind (·.dst) with
   | none => simp only [opM,hg',hd] at hx; exact (M.fail_some hx).elim
   | some s =>
     rw [hd] at hg'
     have hb:∃ v,boolAt st s=some v:=by
        simp only [opM,hg',M.exec] at hx
        split at hx
        · rename_i c hc
          split at hx
          · exact (M.fail_some hx).elim
          · rename_i hb; exact ⟨none,by simp [boolAt,hc,hb]⟩
          · rename_i x hb; exact ⟨some x,by simp [boolAt,hc,hb]⟩
        · cases hx
     obtain ⟨v,hb⟩:=hb
     rw [(opM_get hg' hb).1] at hx
     have ht:=h.guard hb
     have hy:yielded ops a.tmps j=v:=by
        simp only [yielded,hd,Option.bind_some,ht]
        cases v <;> simp [undef]
     cases v with
     | none =>
       rw [if_neg (by simp [Region.wanted,hg,hy])]
       exact hK _ _ (h.skip hx)
     | some x =>
       simp only at hx
       split at hx
       · rename_i e
         rw [if_pos (by simp [Region.wanted,hg,hy,e])]
         exact .inl (hs st st' a w o h hx K Q hK)
       · rename_i e
         rw [if_neg (by simp [Region.wanted,hg,hy,e])]
         exact hK _ _ (h.skip hx)
theorem opsE_ok {mid : Bool} {Q : Exit → Act → World → Prop} (hs : StepsOK P E call np soft G) {K : St → Option R} {y : R} (hK : ∀ st a w, K st = some y → Rel G [] st a w → Q .normal a w) :
 ∀ {r : List Oper} {k : Nat} {st : St} {a : Act} {w : World}, (∀ (j : Nat) (o : Oper), r[j]? = some o → ops[k + j]? = some o) → Rel G [] st a w → opsE E call np soft mid ops r K st = some y →
   wpOps P ops Q (List.range' k r.length) a w
 | [],k,st,a,w,_,h,hx => by
   simp only [opsE] at hx
   exact hK st a w hx h
 | o::r,k,st,a,w,hi,h,hx => by
   obtain ⟨st',h1,h2⟩:=opsE_cons hx
   rw [List.length_cons,List.range'_succ,wpOps_cons]
   refine opM_ok hs (hi 0 o rfl) h h1 fun a' w' h' => opsE_ok hs hK (fun j o' hj => ?_) (h'.mid mid) h2
   rw [Nat.add_assoc,Nat.add_comm 1 j]
   exact hi (j+1) o' (by simpa using hj)
theorem any_ok {Q : Exit → Act → World → Prop} (hs : StepsOK P E call np soft G) (hord : ordOk ops = true) {stf : St} (hK : ∀ a w, Rel G [] stf a w → Q .normal a w) :
 ∀ {n : Nat} {q : List (Nat × Oper × Foot)} {listed : Array Bool} {st : St} {a : Act} {w : World}, q.length = n → Run E call np soft ops q st stf → Rel G [] st a w →
   pairsOk (Region.before ops) (q.map fun x => (x.1,x.2.2))=true→(∀ i,i∈q.map (·.1)↔listed[i]?=some false)→(q.map (·.1)).Nodup→(∀ x,x∈q→ops[x.1]?=some x.2.1)→listed.size=ops.size →
   Closed ops (fun i => listed[i]?=some true)→wpAny P .any ops Q n listed a w:=by
 have ready_iff : ∀ (listed : Array Bool) (i : Nat), i ∈ Region.ready .any ops listed ↔ i < ops.size ∧ listed.getD i true = false ∧
  ∃ o,ops[i]?=some o∧∀ e,e∈o.after.toList→Region.binds .any e=true→listed.getD e.on false=true:=by
  intro listed i
  simp only [Region.ready,List.mem_filter,List.mem_range,Bool.and_eq_true,Bool.not_eq_true']
  refine and_congr Iff.rfl (and_congr Iff.rfl ?_)
  cases ho:ops[i]? with
  | none => simp
  | some o =>
    simp only [Option.map_some,Option.getD_some,Array.all_eq_true',Bool.or_eq_true,Bool.not_eq_true',Option.some.injEq,exists_eq_left']
    constructor
    · intro h e he hb
      rcases h e (Array.mem_toList_iff.1 he) with h | h
      · rw [hb] at h; cases h
      · exact h
    · intro h e he
      cases hb:Region.binds .any e with
      | false => exact .inl rfl
      | true => exact .inr (h e (Array.mem_toList_iff.2 he) hb)
 intro n
 induction n with
 | zero =>
   intro q listed st a w hn hr h _ hl _ _ hsz _
   have hq:q=[]:=List.eq_nil_of_length_eq_zero hn
   subst hq
   have hnil:Region.ready .any ops listed=[]:=by
    apply List.eq_nil_iff_forall_not_mem.2
    intro i hi
    obtain ⟨h1,h2,_⟩:=(ready_iff listed i).1 hi
    have:listed[i]?=some false:=by
        have hlt:i<listed.size:=by omega
        simp only [Array.getD,hlt,dif_pos] at h2
        simp [hlt]; exact h2
    exact absurd ((hl i).2 this) (by simp)
   simp only [Run] at hr
   exact ⟨hnil,hK a w (hr ▸ h)⟩
 | succ n ih =>
   intro q listed st a w hn hr h hp hl hnd ho hsz hcl
   have hfalse:∀ {i:Nat},i<ops.size→listed.getD i true=false→listed[i]?=some false:=by
    intro i h1 h2
    have hlt:i<listed.size:=by omega
    simp only [Array.getD,hlt,dif_pos] at h2
    simp [hlt]; exact h2
   have htrue:∀ {i:Nat},listed.getD i false=true→listed[i]?=some true:=by
    intro i h2
    by_cases hlt:i<listed.size
    · simp only [Array.getD, hlt, dif_pos] at h2
      simp [hlt]; exact h2
    · simp [Array.getD,hlt] at h2
   constructor
   · intro hnil
     exfalso
     -- the least that is left is ready
     have hne:∃ i:Nat,listed[i]?=some false:=by
        cases q with
        | nil => simp at hn
        | cons x q => exact ⟨x.1,(hl x.1).1 (by simp)⟩
     have least:∀ k i:Nat,i≤k→listed[i]?=some false→∃ m:Nat,listed[m]?=some false∧∀ j:Nat,j<m→listed[j]?≠some false:=by
        intro k
        induction k with
        | zero => intro i hi h; exact ⟨i,h,fun j hj => by omega⟩
        | succ k ihk =>
          intro i hi h
          by_cases hex:∃ j:Nat,j<i∧listed[j]?=some false
          · obtain ⟨j, hj, hj'⟩ := hex
            exact ihk j (by omega) hj'
          · exact ⟨i,h,fun j hj hj' => hex ⟨j,hj,hj'⟩⟩
     obtain ⟨i0,hi0⟩:=hne
     obtain ⟨m,hm,hmin⟩:=least i0 i0 (Nat.le_refl _) hi0
     have hmlt:m<ops.size:=by
        rw [← hsz]
        rcases Nat.lt_or_ge m listed.size with h | h
        · exact h
        · simp [h] at hm
     have hmem:m∈Region.ready .any ops listed:=by
        refine (ready_iff listed m).2 ⟨hmlt, ?_,ops[m],by simp [hmlt],fun e he hb => ?_⟩
        · rw [Array.getD_eq_getD_getElem?,hm]; rfl
        · simp only [ordOk, List.all_eq_true] at hord
          have h1:=hord (ops[m],m) (by rw [List.mem_zipIdx_iff_getElem?]; simp [hmlt])
          simp only [Array.all_eq_true'] at h1
          have h2:=h1 e (Array.mem_toList_iff.1 he)
          simp only [hb,Bool.not_true,Bool.false_or,decide_eq_true_eq] at h2
          have h3:=hmin e.on h2
          rw [Array.getD_eq_getD_getElem?]
          have hlt:e.on<listed.size:=by omega
          cases hv:listed[e.on]? with
          | none => simp [hlt] at hv
          | some b => cases b with
            | false => exact absurd hv h3
            | true => rfl
     rw [hnil] at hmem
     simp at hmem
   · intro i hi
     obtain ⟨h1,h2,o,ho',h3⟩:=(ready_iff listed i).1 hi
     have hif:=hfalse h1 h2
     have himem:=(hl i).2 hif
     obtain ⟨x,hx,hxi⟩:=List.mem_map.1 himem
     obtain ⟨pre,post,rfl⟩:=List.append_of_mem hx
     obtain ⟨i',o',f⟩:=x
     simp only at hxi
     subst hxi
     have hoo:=ho _ hx
     rw [ho'] at hoo
     obtain rfl:=Option.some.inj hoo
     simp only [List.map_append,List.map_cons] at hp
     obtain ⟨p1,p2⟩:=pairsOk_mid hp
     have hX:Closed ops (fun k => listed[k]?=some true∨k=i'):=by
        rintro k ok hk (hk' | rfl) e he hb
        · exact .inl (hcl k ok hk hk' e he hb)
        · rw [ho'] at hk
          obtain rfl:=Option.some.inj hk
          exact .inl (htrue (h3 e he hb))
     have hnc:∀ y,y∈pre→clash y.2.2 f=false:=by
        intro y hy
        rcases p1 (y.1,y.2.2) (List.mem_map.2 ⟨y,hy,rfl⟩) with hc | hc
        · exact hc
        · exfalso
          have hyf:=(hl y.1).1 (by simp only [List.map_append,List.mem_append]; exact .inl (List.mem_map_of_mem hy))
          rcases before_closed hX (.inr rfl) hc with h | h
          · rw [hyf] at h; simp at h
          · simp only [List.map_append, List.map_cons] at hnd
            have:=(List.nodup_append.1 hnd).2.2 y.1 (List.mem_map_of_mem hy) i' (by simp)
            exact this h
     obtain ⟨st1,e1,e2,e3⟩:=Run.front hr hnc
     have hset:∀ k:Nat,(listed.setIfInBounds i' true)[k]?=if k=i' then some true else listed[k]?:=by
        intro k
        rw [Array.getElem?_setIfInBounds]
        by_cases e:i'=k
        · subst e
          rw [if_pos rfl,if_pos (by omega),if_pos rfl]
        · rw [if_neg e,if_neg (fun h => e h.symm)]
     simp only [List.map_append,List.map_cons] at hnd
     have hnd2:=List.nodup_append.1 hnd
     refine opM_ok hs ho' h e1 fun a' w' h' => ih (q:=pre ++ post) (by simp at hn ⊢; omega) e3 h' (by simpa using p2) (fun k => ?_) ?_ (fun y hy => ho y ?_) (by simp [hsz]) ?_
     · rw [hset]
       by_cases e:k=i'
       · subst e
         rw [if_pos rfl]
         simp only [List.map_append,List.mem_append]
         constructor
         · rintro (h | h)
           · exact absurd rfl (hnd2.2.2 k h k (by simp))
           · exact absurd h (List.nodup_cons.1 hnd2.2.1).1
         · intro h; simp at h
       · rw [if_neg e, ← hl k]
         simp [e]
     · simp only [List.map_append]
       refine List.nodup_append.2 ⟨hnd2.1,(List.nodup_cons.1 hnd2.2.1).2,fun x hx y hy => hnd2.2.2 x hx y (List.mem_cons_of_mem _ hy)⟩
     · simp only [List.mem_append, List.mem_cons] at hy ⊢
       rcases hy with hy | hy
       · exact .inl hy
       · exact .inr (.inr hy)
     · intro k ok hk hk' e he hb
       rw [hset] at hk' ⊢
       split
       · rfl
       · split at hk'
         · rename_i _ e'
           subst e'
           rw [ho'] at hk
           obtain rfl:=Option.some.inj hk
           exact htrue (h3 e he hb)
         · exact hcl k ok hk hk' e he hb
theorem region_ok {mid : Bool} {Q : Exit → Act → World → Prop} (hE : EnvOK P E) (hs : StepsOK P E call np soft G) {K : St → Option R} {y : R} (hK : ∀ st a w, K st = some y → Rel G [] st a w → Q .normal a w)
 {id:Nat} {draw:Bool} {st:St} {a:Act} {w:World} (h:Rel G [] st a w)
 (hx:(if draw then opsD E call np soft ops 0 ops.toList [] K st else opsE E call np soft mid ops ops.toList K st)=some y):(Code.region id ops draw).wp P Q a w:=by
 cases draw with
 | false =>
   simp only [Bool.false_eq_true,if_false] at hx
   refine wp_region ?_
   have:=opsE_ok (k:=0) hs hK (fun j o hj => by simpa using hj) h hx
   rw [List.range_eq_range']
   simpa using this
 | true =>
   simp only [if_true] at hx
   refine wp_region_any hE.mixed ?_
   obtain ⟨q,st',g1,g2,g3,g4,g5⟩:=opsD_run hx
   have h':Rel G [] st a { w with drawn:=w.drawn+1 }:=by
    obtain ⟨vals,B,F,S,h⟩:=h
    exact ⟨vals,B,F,S,h.drawn _⟩
   have hlen:q.length=ops.size:=by
    have:=congrArg List.length g2
    simpa using this
   have hfst:q.map (·.1)=List.range ops.size:=by
    have:=congrArg (List.map (·.1)) g2
    simp only [List.map_map] at this
    rw [show ((fun x:Nat × Oper => x.1) ∘ fun x:Nat × Oper × Foot => (x.1,x.2.1))=(·.1) from rfl] at this
    rw [this,show ((fun x:Nat × Oper => x.1) ∘ fun x:Oper × Nat => (x.2,x.1))=Prod.snd from rfl,List.zipIdx_map_snd,List.range_eq_range']
    simp
   refine any_ok hs g3 (fun a w hr => hK st' a w g5 hr) hlen g1 h' (by simpa using g4) (fun i => ?_) (by rw [hfst]; exact List.nodup_range) (fun x hx => ?_) (by simp) ?_
   · rw [hfst, List.mem_range]
     by_cases e:i<ops.size
     · simp [e]
     · simp [e]
   · have hm : (x.1, x.2.1) ∈ q.map (fun x => (x.1, x.2.1)) := List.mem_map.2 ⟨x, hx, rfl⟩
     rw [g2] at hm
     obtain ⟨y',hy,he⟩:=List.mem_map.1 hm
     rw [List.mem_zipIdx_iff_getElem?] at hy
     simp only [Prod.mk.injEq] at he
     rw [← he.1,← he.2]
     simpa using hy
   · intro k o hk hk'
     by_cases e:k<ops.size
     · simp [e] at hk'
     · simp [e] at hk'
end
end GoV
