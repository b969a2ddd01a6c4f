import Derived.Test.YtjmeglibedbljaaGreatDoorRunNoneJ2
namespace Go.Proofs.YtjmeglibedbljaaGreatDoor
set_option maxRecDepth 100000
set_option maxHeartbeats 20000000
open Go.RowKit Tryz
open Lib renaming hid->V
set_option linter.all false
abbrev iV (α:Type):=List UInt8 ->Option (α × List UInt8)
def fX:iV Nat:=fun l=>if(gZ 32 l).2.2=0 then some ((gZ 32 l).1,l.drop (gZ 32 l).2.1)else none
theorem kC (n:Nat) (r:List UInt8) (h:n < 4294967296):fX (eO n++r)=some (n,r):=by
 unfold fX;rw [uU n r h];simp
def eV:iV UInt8
 | []=>none
 | c::l=>some (c,l)
def mb:iV (List UInt8):=fun l=>(fX l).bind fun n=>if n.2.length < n.1 then none else some (n.2.take n.1,n.2.drop n.1)
theorem AB (b r:List UInt8) (h:b.length < 4294967296):mb (eO b.length++(b++r))=some (b,r):=by
 unfold mb;rw [kC _ _ h];simp only [ao];rw [az (by simp)];simp
def rY {α:Type} (get:iV α):Nat ->iV (List α)
 | 0,l=>some ([],l)
 | n+1,l=>(get l).bind fun x=>(rY get n x.2).bind fun y=>some (x.1::y.1,y.2)
def fg {α:Type} (get:iV α):iV (List α):=fun l=>(fX l).bind fun n=>rY get n.1 n.2
def ia {α:Type} (put:α ->List UInt8) (l:List α):List UInt8:=eO l.length++(l.map put).flatten
theorem zO {α:Type} {get:iV α} {put:α ->List UInt8}:∀(l:List α) (r:List UInt8),(∀x∈l,∀r,get (put x++r)=some (x,r)) ->rY get l.length ((l.map put).flatten++r)=some (l,r)
 | [],r,_=>rfl
 | x::l,r,h=>by
  rw [bF,bQ,aK,aE,rY,h x (by simp)];simp only [ao,zO l r (fun y hy=>h y (by simp [hy]))]
theorem nz {α:Type} {get:iV α} {put:α ->List UInt8} (l:List α) (r:List UInt8) (hl:l.length < 4294967296) (h:∀x∈l,∀r,get (put x++r)=some (x,r)):fg get (ia put l++r)=some (l,r):=by
 unfold fg ia;rw [aK,kC _ _ hl];exact zO l r h
def kindOk (k:Int):Prop:=k=1\/k=2
instance (k:Int):Decidable (kindOk k):=by unfold kindOk;infer_instance
def iS (k:Int):List UInt8:=[if k=1 then 0x7f else 0x7e]
def gz:iV Int
 | 0x7f::l=>some (1,l)
 | 0x7e::l=>some (2,l)
 | _=>none
theorem n5 {k:Int} (h:kindOk k) (r:List UInt8):gz (iS k++r)=some (k,r):=by
 rcases h with rfl | rfl <;>rfl
def oK (s:ByteArray):List UInt8:=eO s.data.toList.length++s.data.toList
def jm:iV ByteArray:=fun l=>(mb l).bind fun x=>some (bs x.1,x.2)
theorem rT (s:ByteArray) (r:List UInt8) (h:s.data.toList.length < 4294967296):jm (oK s++r)=some (s,r):=by
 unfold jm oK;rw [aK,AB _ _ h];obtain⟨⟨l⟩⟩:=s;rfl
def lR (v:eX):List UInt8:=ix ⟨if v.kind=2 then 66 else 65,v.n,0,[]⟩++[11]
def gy:iV eX:=fun l=>(gf l).bind fun x=>if x.1.op=65\/x.1.op=66 then(eV x.2).bind fun c=>some (⟨if x.1.op=66 then 2 else 1,x.1.a⟩,c.2)else none
theorem yq:iR 0:=⟨by decide,by decide⟩
theorem Jg (n:Int):eP.may ⟨66,n,0,[]⟩:=⟨fun _=>rfl,fun _=>rfl,by
 right;right;right;right;right;right;right;right
 show fC 66=9
 decide⟩
theorem Jj {n:Int} (h1: -2147483648 <=n) (h2:n <=2147483647):eP.may ⟨65,n,0,[]⟩:=⟨fun _=>rfl,fun _=>rfl,by
 right;right;right;right;right;right;right;left
 exact⟨by show fC 65=8;decide,h1,h2⟩⟩
theorem vn {v:eX} (hm:v.may) (ho:v.ok) (r:List UInt8):gy (lR v++r)=some (v,r):=by
 obtain⟨k,n⟩:=v;have h66:iR 66:=⟨by decide,by decide⟩;have h65:iR 65:=⟨by decide,by decide⟩;unfold gy lR;rcases hm with hk | ⟨hk,h1,h2⟩
 ·simp only at hk
  subst hk;have e:gf (ix ⟨66,n,0,[]⟩++([11]++r))=some (⟨66,n,0,[]⟩,[11]++r):=n4 ⟨66,n,0,[]⟩ _ (Jg n) ⟨h66,ho.2,yq,by simp⟩;rw [aD rfl,aK,e];rfl
 ·simp only at hk h1 h2
  subst hk;have e:gf (ix ⟨65,n,0,[]⟩++([11]++r))=some (⟨65,n,0,[]⟩,[11]++r):=n4 ⟨65,n,0,[]⟩ _ (Jj h1 h2) ⟨h65,ho.2,yq,by simp⟩;rw [az (by show ¬ (1:Int)=2;decide),aK,e];rfl
def lV (n:Int):Prop:= -2147483648 <=n/\n <=2147483647
instance (n:Int):Decidable (lV n):=by unfold lV;infer_instance
def ns (n:Int):List UInt8:=0::lR ⟨1,n⟩
def iX:iV Int:=fun l=>(eV l).bind fun c=>(gy c.2).bind fun v=>some (v.1.n,v.2)
theorem uA {n:Int} (h:lV n) (r:List UInt8):iX (ns n++r)=some (n,r):=by
 unfold iX ns;rw [bI];simp only [eV,ao];rw [vn (v:=⟨1,n⟩) (.inr ⟨rfl,h.1,h.2⟩) ⟨⟨by show(-9223372036854775808:Int) <=1;decide,by show(1:Int) <=9223372036854775807;decide⟩,by have:=h.1;show(-9223372036854775808:Int) <=n;omega,by have:=h.2;show n <=(9223372036854775807:Int);omega⟩];rfl
def gM (x:fN):List UInt8:=if x.max < 0 then 0::eO x.min.toNat else 1::(eO x.min.toNat++eO x.max.toNat)
def fT:iV fN:=fun l=>(eV l).bind fun c=>(fX c.2).bind fun n=>if c.1=0 then some (⟨true,n.1,-1⟩,n.2)else(fX n.2).bind fun m=>some (⟨true,n.1,m.1⟩,m.2)
def fN.may (least ff:Int) (x:fN):Prop:=if x.has=true then(0 <=x.min/\x.min <=least)/\ -1 <=x.max/\x.max <=ff else x.min=0/\x.max=0
instance (least ff:Int) (x:fN):Decidable (x.may least ff):=by unfold fN.may;infer_instance
theorem yG {least ff:Int} {x:fN} (hh:x.has=true) (hm:x.may least ff) (hl:least <=100000) (hmo:ff <=100000) (r:List UInt8):fT (gM x++r)=some (x,r):=by
 obtain⟨has,mn,mx⟩:=x;simp only at hh;subst hh;unfold fN.may at hm;rw [aD rfl]at hm;obtain⟨⟨h1,h2⟩,h3,h4⟩:=hm;simp only at h1 h2 h3 h4;have e1:((mn.toNat:Nat):Int)=mn:=by omega
 unfold fT gM;by_cases hx:mx < 0
 ·rw [aD hx,bI]
  simp only [eV,ao];rw [kC _ _ (by omega)];have:mx= -1:=by omega
  simp [e1,this]
 ·rw [az hx,bI,aK]
  simp only [eV,ao];rw [kC _ _ (by omega)];simp only [ao];rw [az (by decide),kC _ _ (by omega)];have e2:((mx.toNat:Nat):Int)=mx:=by omega
  simp [e1,e2]
def gp:List Int ->List (Nat × Int)
 | []=>[]
 | k::l=>match gp l with
  | []=>[(1,k)]
  | (n,k')::t=>if k=k' then(n+1,k')::t else(1,k)::(n,k')::t
def iF (l:List (Nat × Int)):List Int:=(l.map fun x=>List.replicate x.1 x.2).flatten
theorem sM:∀l:List Int,iF (gp l)=l
 | []=>rfl
 | k::l=>by
  have ih:=sM l;rw [gp];cases hr:gp l with
  | nil=>
   rw [hr]at ih;simp only [iF]at ih⊢;simp at ih⊢;exact ih
  | cons x t=>
   obtain⟨n,k'⟩:=x;rw [hr]at ih;simp only;split
   ·rename_i h
    subst h;simp only [iF,bF,bQ]at ih⊢;rw [List.replicate_succ,bI,ih]
   ·simp only [iF,bF,bQ]at ih⊢
    rw [ih];rfl
theorem rz:∀(l:List Int) (x:Nat × Int),x∈gp l ->x.2∈l/\x.1 <=l.length
 | [],x,h=>by simp [gp]at h
 | k::l,x,h=>by
  have ih:=rz l;rw [gp]at h;cases hr:gp l with
  | nil=>
   rw [hr]at h;simp at h;subst h;simp
  | cons y t=>
   obtain⟨n,k'⟩:=y;rw [hr]at h ih;simp only at h;split at h
   ·rename_i hk
    rcases bH.1 h with rfl | h
    ·have:=ih (n,k') (by simp)
     exact⟨by simp [this.1],by simp only [aE];have:=this.2;simp only at this;omega⟩
    ·have:=ih x (by simp [h])
     exact⟨by simp [this.1],by simp only [aE];omega⟩
   ·rcases bH.1 h with rfl | h
    ·simp
    ·have:=ih x h
     exact⟨by simp [this.1],by simp only [aE];omega⟩
theorem pC (l:List Int):(gp l).length <=l.length:=by
 induction l with
 | nil=>simp [gp]
 | cons k l ih=>
  rw [gp];cases hr:gp l with
  | nil=>simp
  | cons y t=>
   obtain⟨n,k'⟩:=y;rw [hr]at ih;simp only;split <;>simp only [aE]at ih⊢ <;>omega
def xA (x:Nat × Int):List UInt8:=eO x.1++iS x.2
def lU:iV (Nat × Int):=fun l=>(fX l).bind fun n=>(gz n.2).bind fun k=>if 32 < n.1 then none else some ((n.1,k.1),k.2)
def lx (l:List Int):List UInt8:=ia xA (gp l)
def jn:iV (List Int):=fun l=>(fg lU l).bind fun x=>some (iF x.1,x.2)
theorem AE {l:List Int} (hl:l.length <=32) (hk:∀k∈l,kindOk k) (r:List UInt8):jn (lx l++r)=some (l,r):=by
 unfold jn lx;have:=pC l;rw [nz (put:=xA) (gp l) r (by omega) (fun x hx r=>by
  obtain⟨h1,h2⟩:=rz l x hx;unfold lU xA;rw [aK,kC _ _ (by omega)];simp only [ao];rw [n5 (hk _ h1)];simp only [ao];rw [az (by omega)])]
 simp [sM]
def hI.may (x:hI):Prop:=(fJ x.body).isSome=true/\(x.locals.length <=32/\∀k∈x.locals,kindOk k)/\x.body.length <=300/\∀y∈x.body,y.may
def oD (x:hI):List UInt8:=lx x.locals++qa x.body
def jV (x:hI):List UInt8:=eO (oD x).length++oD x
def lM:iV hI:=fun l=>(fX l).bind fun n=>(jn n.2).bind fun k=>(kI k.2).bind fun b=>some (⟨k.1,b.1⟩,b.2)
theorem C7 {x:hI} (hm:x.may) (ho:∀y∈x.body,y.ok) (hs:(oD x).length < 4294967296) (r:List UInt8):lM (jV x++r)=some (x,r):=by
 obtain⟨m1,⟨m2,m3⟩,m4,m5⟩:=hm;unfold lM jV;rw [aK,kC _ _ hs];simp only [ao,oD];rw [aK,AE m2 m3];simp only [ao];rw [D1 _ _ m1 (fun y hy=>⟨m5 y hy,ho y hy⟩)];rfl
def jL (s:ByteArray):Prop:=s.data.toList≠[]/\s.data.toList.length <=16/\∀c∈s.data.toList,32 <=c.toNat/\c.toNat <=126
instance (s:ByteArray):Decidable (jL s):=by unfold jL;infer_instance
def lE (t:gw):List UInt8:=0x60::(ia iS t.params++ia iS t.results)
def pe:iV gw:=fun l=>(eV l).bind fun c=>(fg gz c.2).bind fun p=>(fg gz p.2).bind fun q=>some (⟨p.1,q.1⟩,q.2)
def gw.may (t:gw):Prop:=(t.params.length <=32/\∀k∈t.params,kindOk k)/\t.results.length <=1/\∀k∈t.results,kindOk k
theorem DM {t:gw} (h:t.may) (r:List UInt8):pe (lE t++r)=some (t,r):=by
 obtain⟨⟨h1,h2⟩,h3,h4⟩:=h;unfold pe lE;rw [bI,aK];simp only [eV,ao];rw [nz _ _ (by omega) (fun k hk r=>n5 (h2 k hk) r)];simp only [ao];rw [nz _ _ (by omega) (fun k hk r=>n5 (h4 k hk) r)];rfl
def sR (n:Int):List UInt8:=eO n.toNat
def vz:iV Int:=fun l=>(fX l).bind fun n=>some ((n.1:Int),n.2)
theorem tf {n:Int} (h:fO n) (r:List UInt8):vz (sR n++r)=some (n,r):=by
 obtain⟨h1,h2⟩:=h;unfold vz sR;rw [kC _ _ (by omega)];have:((n.toNat:Nat):Int)=n:=by omega
 simp [this]
def ow (x:jD):List UInt8:=oK x.mod++(oK x.name++(0::sR x.type))
def ua:iV jD:=fun l=>(jm l).bind fun a=>(jm a.2).bind fun b=>(eV b.2).bind fun c=>(vz c.2).bind fun n=>some (⟨a.1,b.1,n.1⟩,n.2)
def jD.may (x:jD):Prop:=jL x.mod/\jL x.name/\fO x.type
theorem El {x:jD} (h:x.may) (r:List UInt8):ua (ow x++r)=some (x,r):=by
 obtain⟨⟨_,h1,_⟩,⟨_,h2,_⟩,h3⟩:=h;unfold ua ow;rw [aK,rT _ _ (by omega)];simp only [ao];rw [aK,rT _ _ (by omega)];simp only [ao,bI,eV];rw [tf h3];rfl
def jy (x:fN):List UInt8:=0x70::gM x
def kD:iV fN:=fun l=>(eV l).bind fun c=>fT c.2
def kQ (x:jz):List UInt8:=iS x.init.kind++((if x.isVar=true then 1 else 0)::lR x.init)
def oT:iV jz:=fun l=>(gz l).bind fun k=>(eV k.2).bind fun c=>(gy c.2).bind fun v=>some (⟨c.1 !=0,v.1⟩,v.2)
theorem Df {x:jz} (h:x.init.may) (ho:x.init.ok) (r:List UInt8):oT (kQ x++r)=some (x,r):=by
 obtain⟨v,i⟩:=x;have hk:kindOk i.kind:=by
  rcases h with h | ⟨h,_⟩
  ·exact .inr h
  ·exact .inl h
 unfold oT kQ;rw [aK,n5 hk];simp only [ao,bI,eV];rw [vn h ho];cases v <;>rfl
def oM (x:iU):List UInt8:=oK x.name++(0::sR x.func)
def uw:iV iU:=fun l=>(jm l).bind fun a=>(eV a.2).bind fun c=>(vz c.2).bind fun n=>some (⟨a.1,n.1⟩,n.2)
def iU.may (x:iU):Prop:=jL x.name/\fO x.func
theorem ET {x:iU} (h:x.may) (r:List UInt8):uw (oM x++r)=some (x,r):=by
 obtain⟨⟨_,h1,_⟩,h3⟩:=h;unfold uw oM;rw [aK,rT _ _ (by omega)];simp only [ao,bI,eV];rw [tf h3];rfl
def lP (x:jh):List UInt8:=ns x.off++ia sR x.funcs
def pd:iV jh:=fun l=>(iX l).bind fun n=>(fg vz n.2).bind fun t=>some (⟨n.1,t.1⟩,t.2)
def jh.may (x:jh):Prop:=lV x.off/\x.funcs.length <=50/\∀n∈x.funcs,fO n
theorem DS {x:jh} (h:x.may) (r:List UInt8):pd (lP x++r)=some (x,r):=by
 obtain⟨h1,h2,h3⟩:=h;unfold pd lP;rw [aK,uA h1];simp only [ao];rw [nz _ _ (by omega) (fun k hk r=>tf (h3 k hk) r)];rfl
def oB (x:gR):List UInt8:=ns x.off++(eO x.bytes.length++x.bytes)
def uk:iV gR:=fun l=>(iX l).bind fun n=>(mb n.2).bind fun b=>some (⟨n.1,b.1⟩,b.2)
def gR.may (x:gR):Prop:=lV x.off/\x.bytes.length <=1000
theorem F0 {x:gR} (h:x.may) (r:List UInt8):uk (oB x++r)=some (x,r):=by
 obtain⟨h1,h2⟩:=h;unfold uk oB;rw [aK,uA h1];simp only [ao];rw [aK,AB _ _ (by omega)];rfl
def ij {α:Type} (no:UInt8) (put:α ->List UInt8) (l:List α):List UInt8:=match l with
 | []=>[]
 | _=>no::(eO (ia put l).length++ia put l)
def oneOf (x:fN):List fN:=if x.has=true then [x]else []
def fw:List UInt8:=[0,0x61,0x73,0x6d,1,0,0,0]
def pX (m:eu):List UInt8:=
 ij 1 lE m.types++(ij 2 ow m.imports++(ij 3 sR m.funcs++(ij 4 jy (oneOf m.table)++(ij 5 gM (oneOf m.mem)++(ij 6 kQ m.globals++(ij 7 oM m.dY++(ij 9 lP m.elems++(ij 10 jV m.eh++ij 11 oB m.eA))))))))
def fA (m:eu):List UInt8:=fw++pX m
def m0:eu:=⟨[],[],[],⟨false,0,0⟩,⟨false,0,0⟩,[],[],[],[],[]⟩
def jF (l:List fN):fN:=match l with
 | []=>⟨false,0,0⟩
 | x::_=>x
def jo (no:Nat) (m:eu) (l:List UInt8):Option (eu × List UInt8):=match no with
 | 1=>(fg pe l).bind fun x=>some ({m with types:=x.1},x.2)
 | 2=>(fg ua l).bind fun x=>some ({m with imports:=x.1},x.2)
 | 3=>(fg vz l).bind fun x=>some ({m with funcs:=x.1},x.2)
 | 4=>(fg kD l).bind fun x=>some ({m with table:=jF x.1},x.2)
 | 5=>(fg fT l).bind fun x=>some ({m with mem:=jF x.1},x.2)
 | 6=>(fg oT l).bind fun x=>some ({m with globals:=x.1},x.2)
 | 7=>(fg uw l).bind fun x=>some ({m with dY:=x.1},x.2)
 | 9=>(fg pd l).bind fun x=>some ({m with elems:=x.1},x.2)
 | 10=>(fg lM l).bind fun x=>some ({m with eh:=x.1},x.2)
 | 11=>(fg uk l).bind fun x=>some ({m with eA:=x.1},x.2)
 | _=>none
def nM:Nat ->eu ->List UInt8 ->Option eu
 | 0,_,_=>none
 | _+1,m,[]=>some m
 | f+1,m,no::l=>(fX l).bind fun k=>(jo no.toNat m k.2).bind fun x=>nM f x.1 x.2
def lX (l:List UInt8):Option eu:=if 8000 < l.length then none else if l.take 8=fw then nM (l.length+1) m0 (l.drop 8)else none
theorem jR {α:Type} {no:UInt8} {put:α ->List UInt8} {get:iV α} {l:List α} {m m':eu} (upd:List α ->eu) (MR:∀b,jo no.toNat m b=(fg get b).bind fun x=>some (upd x.1,x.2)) (h0:l=[] ->m'=m) (h1:upd l=m')
  (hp:∀x∈l,∀r,get (put x++r)=some (x,r)) (hl:l.length < 4294967296) (hs:(ia put l).length < 4294967296) (f:Nat) (r:List UInt8) (hf:(ij no put l++r).length < f):
  ∃f',r.length < f'/\nM f m (ij no put l++r)=nM f' m' r:=by
 cases l with
 | nil=>
  rw [h0 rfl];exact⟨f,by simpa [ij] using hf,rfl⟩
 | cons x l=>
  obtain⟨f,rfl⟩:∃f',f=f'+1:=⟨f - 1,by omega⟩;refine⟨f,?_,?_⟩
  ·simp only [ij,ah,aE]at hf
   omega
  ·simp only [ij,bI,aK]
   rw [nM,kC _ _ hs];simp only [ao];rw [MR,nz _ _ hl hp];simp only [ao];rw [h1]
def eu.Il (m:eu):Prop:=
 (∀x∈m.types,x.may)/\(∀x∈m.imports,x.may)/\(∀n∈m.funcs,fO n)/\m.table.may 16 1000/\m.mem.may 16 65536/\(∀x∈m.globals,x.init.may)/\(∀x∈m.dY,x.may)/\(∀x∈m.elems,x.may)/\(∀x∈m.eh,x.may)/\∀x∈m.eA,x.may
theorem yN {α:Type} (no:UInt8) (put:α ->List UInt8) (l:List α):l=[]\/(ia put l).length < (ij no put l).length:=by
 cases l with
 | nil=>exact .inl rfl
 | cons x l=>
  right
  simp only [ij,aE,ah];omega
theorem je {α:Type} (no:UInt8) (put:α ->List UInt8) (l:List α) {n:Nat} (h:(ij no put l).length <=n) (hn:n <=8000):(ia put l).length < 4294967296:=by
 rcases yN no put l with h1 | h1
 ·rw [h1]
  have:=(eL 0).2;simp only [ia,aL,cT,List.flatten_nil,bO];omega
 ·omega
theorem ll {α:Type} (put:α ->List UInt8):∀l:List α,(∀x∈l,1 <=(put x).length) ->l.length <=(ia put l).length:=by
 intro l h;have:∀l:List α,(∀x∈l,1 <=(put x).length) ->l.length <=((l.map put).flatten).length:=by
  intro l
  induction l with
  | nil=>simp
  | cons x l ih=>
   intro h;have h1:=h x (by simp);have h2:=ih (fun y hy=>h y (by simp [hy]));simp only [bF,bQ,ah,aE];omega
 have:=this l h;simp only [ia,ah];omega
theorem BO {x:hI} {m:eu} (hx:x∈m.eh) (hl:(fA m).length <=8000):(oD x).length < 4294967296:=by
 have h1:(jV x).length <=((m.eh.map jV).flatten).length:=by
  obtain⟨a,b,PR⟩:=List.append_of_mem hx;rw [PR];simp only [cn,bF,List.flatten_append,bQ,ah];omega
 rcases yN 10 jV m.eh with h2 | h2
 ·rw [h2]at hx
  simp at hx
 ·simp only [fA,pX,ah]at hl
  simp only [ia,ah]at h2;simp only [jV,ah]at h1;omega
theorem vX {x y:fN} (h:y∈oneOf x):y=x/\x.has=true:=by
 unfold oneOf at h;split at h
 ·rename_i hh
  exact⟨aV.1 h,hh⟩
 ·simp at h
theorem pD {least ff:Int} {x:fN} (h:x.may least ff):jF (oneOf x)=x:=by
 obtain⟨has,mn,mx⟩:=x;unfold oneOf;cases has with
 | true=>rfl
 | false=>
  unfold fN.may at h;rw [az (by simp)]at h;obtain⟨h1,h2⟩:=h;simp only at h1 h2;rw [h1,h2];rfl
theorem vW {least ff:Int} {x:fN} (h:x.may least ff) (hn:oneOf x=[]):x=⟨false,0,0⟩:=by
 rw [<- pD h,hn];rfl
theorem rv {least ff:Int} {x y:fN} (hm:x.may least ff) (hl:least <=100000) (hmo:ff <=100000) (hy:y∈oneOf x) (r:List UInt8):fT (gM y++r)=some (y,r):=by
 obtain⟨rfl,hh⟩:=vX hy;exact yG hh hm hl hmo r
theorem Aj {least ff:Int} {x y:fN} (hm:x.may least ff) (hl:least <=100000) (hmo:ff <=100000) (hy:y∈oneOf x) (r:List UInt8):kD (jy y++r)=some (y,r):=by
 unfold kD jy;rw [bI];simp only [eV,ao];exact rv hm hl hmo hy r
theorem AG {m:eu} (hm:m.Il) (ho:m.ok) (hb:∀x∈m.eh,∀y∈x.body,y.ok) (hl:(fA m).length <=8000):lX (fA m)=some m:=by
 obtain⟨h1,h2,h3,h4,h5,h6,h7,h8,h9,h10⟩:=hm;have hlen:(pX m).length <=7992:=by
  simp only [fA,ah]at hl;have:fw.length=8:=rfl;omega
 unfold lX;rw [az (by omega)];have e0:(fA m).take 8=fw:=by
  unfold fA;exact cJ (l₁:=fw)
 have e1:(fA m).drop 8=pX m:=by
  unfold fA;exact cZ (l₁:=fw)
 rw [aD e0,e1];have hf:(pX m).length < (fA m).length+1:=by
  simp only [fA,ah];omega
 generalize(fA m).length+1=f at hf;have hlen2:=hlen;simp only [pX,ah]at hlen2;have hstart:nM f m0 (pX m)=nM f (⟨[],[],[],⟨false,0,0⟩,⟨false,0,0⟩,[],[],[],[],[]⟩:eu) (pX m):=rfl;rw [hstart];clear hstart hlen;unfold pX at hf⊢;have v0:=je 1 lE m.types (n:=7992) (by omega) (by omega);have l0:=ll lE m.types (fun x _=>by simp [lE]);obtain⟨f0,g0,k0⟩:=jR (no:=1) (put:=lE) (get:=pe) (l:=m.types) (m:=(⟨[],[],[],⟨false,0,0⟩,⟨false,0,0⟩,[],[],[],[],[]⟩:eu)) (m':=(⟨m.types,[],[],⟨false,0,0⟩,⟨false,0,0⟩,[],[],[],[],[]⟩:eu)) (fun x=>(⟨x,[],[],⟨false,0,0⟩,⟨false,0,0⟩,[],[],[],[],[]⟩:eu)) (fun b=>rfl) (fun h=>by rw [h]) (rfl) (fun x hx r=>DM (h1 x hx) r) (by omega) v0 _ _ hf;rw [k0];have v1:=je 2 ow m.imports (n:=7992) (by omega) (by omega);have l1:=ll ow m.imports (fun x _=>by have:=(eL x.mod.data.toList.length).1;simp only [ow,oK,ah];omega);obtain⟨f1,g1,k1⟩:=jR (no:=2) (put:=ow) (get:=ua) (l:=m.imports) (m:=(⟨m.types,[],[],⟨false,0,0⟩,⟨false,0,0⟩,[],[],[],[],[]⟩:eu)) (m':=(⟨m.types,m.imports,[],⟨false,0,0⟩,⟨false,0,0⟩,[],[],[],[],[]⟩:eu)) (fun x=>(⟨m.types,x,[],⟨false,0,0⟩,⟨false,0,0⟩,[],[],[],[],[]⟩:eu)) (fun b=>rfl) (fun h=>by rw [h]) (rfl) (fun x hx r=>El (h2 x hx) r) (by omega) v1 _ _ g0;rw [k1];have v2:=je 3 sR m.funcs (n:=7992) (by omega) (by omega);have l2:=ll sR m.funcs (fun x _=>(eL x.toNat).1);obtain⟨f2,g2,k2⟩:=jR (no:=3) (put:=sR) (get:=vz) (l:=m.funcs) (m:=(⟨m.types,m.imports,[],⟨false,0,0⟩,⟨false,0,0⟩,[],[],[],[],[]⟩:eu)) (m':=(⟨m.types,m.imports,m.funcs,⟨false,0,0⟩,⟨false,0,0⟩,[],[],[],[],[]⟩:eu)) (fun x=>(⟨m.types,m.imports,x,⟨false,0,0⟩,⟨false,0,0⟩,[],[],[],[],[]⟩:eu)) (fun b=>rfl) (fun h=>by rw [h]) (rfl) (fun x hx r=>tf (h3 x hx) r) (by omega) v2 _ _ g1;rw [k2];have v3:=je 4 jy (oneOf m.table) (n:=7992) (by omega) (by omega);have l3:=ll jy (oneOf m.table) (fun x _=>by simp [jy]);obtain⟨f3,g3,k3⟩:=jR (no:=4) (put:=jy) (get:=kD) (l:=(oneOf m.table)) (m:=(⟨m.types,m.imports,m.funcs,⟨false,0,0⟩,⟨false,0,0⟩,[],[],[],[],[]⟩:eu)) (m':=(⟨m.types,m.imports,m.funcs,m.table,⟨false,0,0⟩,[],[],[],[],[]⟩:eu)) (fun x=>(⟨m.types,m.imports,m.funcs,jF x,⟨false,0,0⟩,[],[],[],[],[]⟩:eu)) (fun b=>rfl) (fun h=>by rw [vW h4 h]) (by rw [pD h4]) (fun x hx r=>Aj h4 (by decide) (by decide) hx r) (by omega) v3 _ _ g2;rw [k3];have v4:=je 5 gM (oneOf m.mem) (n:=7992) (by omega) (by omega);have l4:=ll gM (oneOf m.mem) (fun x _=>by unfold gM;split <;>simp);obtain⟨f4,g4,k4⟩:=jR (no:=5) (put:=gM) (get:=fT) (l:=(oneOf m.mem)) (m:=(⟨m.types,m.imports,m.funcs,m.table,⟨false,0,0⟩,[],[],[],[],[]⟩:eu)) (m':=(⟨m.types,m.imports,m.funcs,m.table,m.mem,[],[],[],[],[]⟩:eu)) (fun x=>(⟨m.types,m.imports,m.funcs,m.table,jF x,[],[],[],[],[]⟩:eu)) (fun b=>rfl) (fun h=>by rw [vW h5 h]) (by rw [pD h5]) (fun x hx r=>rv h5 (by decide) (by decide) hx r) (by omega) v4 _ _ g3;rw [k4];have v5:=je 6 kQ m.globals (n:=7992) (by omega) (by omega);have l5:=ll kQ m.globals (fun x _=>by simp [kQ,iS]);obtain⟨f5,g5,k5⟩:=jR (no:=6) (put:=kQ) (get:=oT) (l:=m.globals) (m:=(⟨m.types,m.imports,m.funcs,m.table,m.mem,[],[],[],[],[]⟩:eu)) (m':=(⟨m.types,m.imports,m.funcs,m.table,m.mem,m.globals,[],[],[],[]⟩:eu)) (fun x=>(⟨m.types,m.imports,m.funcs,m.table,m.mem,x,[],[],[],[]⟩:eu)) (fun b=>rfl) (fun h=>by rw [h]) (rfl) (fun x hx r=>Df (h6 x hx) (ho.2.2.2.2.1 x hx) r) (by omega) v5 _ _ g4;rw [k5];have v6:=je 7 oM m.dY (n:=7992) (by omega) (by omega);have l6:=ll oM m.dY (fun x _=>by have:=(eL x.name.data.toList.length).1;simp only [oM,oK,ah];omega);obtain⟨f6,g6,k6⟩:=jR (no:=7) (put:=oM) (get:=uw) (l:=m.dY) (m:=(⟨m.types,m.imports,m.funcs,m.table,m.mem,m.globals,[],[],[],[]⟩:eu)) (m':=(⟨m.types,m.imports,m.funcs,m.table,m.mem,m.globals,m.dY,[],[],[]⟩:eu)) (fun x=>(⟨m.types,m.imports,m.funcs,m.table,m.mem,m.globals,x,[],[],[]⟩:eu)) (fun b=>rfl) (fun h=>by rw [h]) (rfl) (fun x hx r=>ET (h7 x hx) r) (by omega) v6 _ _ g5;rw [k6];have v7:=je 9 lP m.elems (n:=7992) (by omega) (by omega);have l7:=ll lP m.elems (fun x _=>by simp [lP,ns]);obtain⟨f7,g7,k7⟩:=jR (no:=9) (put:=lP) (get:=pd) (l:=m.elems) (m:=(⟨m.types,m.imports,m.funcs,m.table,m.mem,m.globals,m.dY,[],[],[]⟩:eu)) (m':=(⟨m.types,m.imports,m.funcs,m.table,m.mem,m.globals,m.dY,m.elems,[],[]⟩:eu)) (fun x=>(⟨m.types,m.imports,m.funcs,m.table,m.mem,m.globals,m.dY,x,[],[]⟩:eu)) (fun b=>rfl) (fun h=>by rw [h]) (rfl) (fun x hx r=>DS (h8 x hx) r) (by omega) v7 _ _ g6;rw [k7];have v8:=je 10 jV m.eh (n:=7992) (by omega) (by omega);have l8:=ll jV m.eh (fun x _=>by have:=(eL (oD x).length).1;simp only [jV,ah];omega);obtain⟨f8,g8,k8⟩:=jR (no:=10) (put:=jV) (get:=lM) (l:=m.eh) (m:=(⟨m.types,m.imports,m.funcs,m.table,m.mem,m.globals,m.dY,m.elems,[],[]⟩:eu)) (m':=(⟨m.types,m.imports,m.funcs,m.table,m.mem,m.globals,m.dY,m.elems,m.eh,[]⟩:eu)) (fun x=>(⟨m.types,m.imports,m.funcs,m.table,m.mem,m.globals,m.dY,m.elems,x,[]⟩:eu)) (fun b=>rfl) (fun h=>by rw [h]) (rfl) (fun x hx r=>C7 (h9 x hx) (hb x hx) (BO hx hl) r) (by omega) v8 _ _ g7;rw [k8];have v9:=je 11 oB m.eA (n:=7992) (by omega) (by omega);have l9:=ll oB m.eA (fun x _=>by simp [oB,ns]);rw [show ij 11 oB m.eA=ij 11 oB m.eA++[]from(bO _).symm]at g8⊢;obtain⟨f9,g9,k9⟩:=jR (no:=11) (put:=oB) (get:=uk) (l:=m.eA) (m:=(⟨m.types,m.imports,m.funcs,m.table,m.mem,m.globals,m.dY,m.elems,m.eh,[]⟩:eu)) (m':=(⟨m.types,m.imports,m.funcs,m.table,m.mem,m.globals,m.dY,m.elems,m.eh,m.eA⟩:eu)) (fun x=>(⟨m.types,m.imports,m.funcs,m.table,m.mem,m.globals,m.dY,m.elems,m.eh,x⟩:eu)) (fun b=>rfl) (fun h=>by rw [h]) (rfl) (fun x hx r=>F0 (h10 x hx) r) (by omega) v9 _ _ g8;rw [k9];obtain⟨f',rfl⟩:∃f',f9=f'+1:=⟨f9 - 1,by simp at g9;omega⟩;rfl
def eu.lists (m:eu):Prop:=
 ((m.types.length <=16/\∀x∈m.types,x.may)/\(m.imports.length <=16/\∀x∈m.imports,x.may)/\((m.funcs.length:Int) <=16 - m.imports.length/\∀n∈m.funcs,fO n))/\
 (m.globals.length <=16/\∀x∈m.globals,x.init.may)/\(m.dY.length <=16/\∀x∈m.dY,x.may)/\(m.elems.length <=16/\∀x∈m.elems,x.may)/\(m.eA.length <=16/\∀x∈m.eA,x.may)
def eu.th (m:eu):Prop:=m.eh.length=m.funcs.length/\m.eh.length <=16/\∀x∈m.eh,x.may
def eu.vD (m:eu):Prop:=m.th/\m.lists/\m.table.may 16 1000/\m.mem.may 16 65536
def eu.may (m:eu):Prop:=m.vD/\(fA m).length <=8000
instance (t:gw):Decidable t.may:=by unfold gw.may;infer_instance
instance (x:jD):Decidable x.may:=by unfold jD.may;infer_instance
instance (x:iU):Decidable x.may:=by unfold iU.may;infer_instance
instance (x:jh):Decidable x.may:=by unfold jh.may;infer_instance
instance (x:gR):Decidable x.may:=by unfold gR.may;infer_instance
instance (x:hI):Decidable x.may:=by unfold hI.may;infer_instance
instance (m:eu):Decidable m.lists:=by unfold eu.lists;infer_instance
instance (m:eu):Decidable m.th:=by unfold eu.th;infer_instance
instance (m:eu):Decidable m.vD:=by unfold eu.vD;infer_instance
instance (m:eu):Decidable m.may:=by unfold eu.may;infer_instance
theorem eu.vD.Il {m:eu} (h:m.vD):m.Il:=by
 obtain⟨⟨_,_,h9⟩,⟨⟨⟨_,h1⟩,⟨_,h2⟩,_,h3⟩,⟨_,h6⟩,⟨_,h7⟩,⟨_,h8⟩,_,h10⟩,h4,h5⟩:=h;exact⟨h1,h2,h3,h4,h5,h6,h7,h8,h9,h10⟩
theorem CG {α:Type} (put:α ->List UInt8) (k:Nat):∀l:List α,(∀x∈l,(put x).length <=k) ->((l.map put).flatten).length <=k*l.length
 | [],_=>by simp
 | x::l,h=>by
  have h1:=h x (by simp);have h2:=CG put k l (fun y hy=>h y (by simp [hy]));simp only [bF,bQ,ah,aE];rw [Nat.mul_add];omega
theorem ji {α:Type} (put:α ->List UInt8) (k n:Nat) (l:List α) (h:∀x∈l,(put x).length <=k) (hl:l.length <=n):(ia put l).length <=10+k*n:=by
 have h1:=CG put k l h;have h2:=(eL l.length).2;have h3:k*l.length <=k*n:=dF _ hl;simp only [ia,ah];omega
theorem ng {α:Type} (no:UInt8) (put:α ->List UInt8) (k n:Nat) (l:List α) (h:∀x∈l,(put x).length <=k) (hl:l.length <=n):(ij no put l).length <=21+k*n:=by
 cases l with
 | nil=>simp [ij]
 | cons x l=>
  have h1:=ji put k n _ h hl;have h2:=(eL (ia put (x::l)).length).2;simp only [ij,aE,ah]at h1 h2⊢;omega
theorem GV {t:gw} (h:t.may):(lE t).length <=100:=by
 obtain⟨⟨h1,_⟩,h2,_⟩:=h;have a:=ji iS 1 32 t.params (fun x _=>by simp [iS]) h1;have b:=ji iS 1 1 t.results (fun x _=>by simp [iS]) h2;simp only [lE,aE,ah];omega
theorem rK (n:Int):(sR n).length <=10:=(eL n.toNat).2
theorem nI {s:ByteArray} (h:jL s):(oK s).length <=26:=by
 have a:=(eL s.data.toList.length).2;have:=h.2.1;simp only [oK,ah];omega
theorem I4 {x:jD} (h:x.may):(ow x).length <=100:=by
 have a:=nI h.1;have b:=nI h.2.1;have c:=rK x.type;simp only [ow,aE,ah];omega
theorem qx (x:fN):(gM x).length <=30:=by
 have a:=(eL x.min.toNat).2;have b:=(eL x.max.toNat).2;unfold gM;split
 ·simp only [aE];omega
 ·simp only [aE,ah];omega
theorem xu (x:fN):(jy x).length <=31:=by
 have:=qx x;simp only [jy,aE];omega
theorem yI (n:Int) (h:iR n) (op:Int) (ho:op=65\/op=66):(ix ⟨op,n,0,[]⟩).length <=11:=by
 have s:=(ug h.1 h.2).2;rcases ho with rfl | rfl
 ·have:fZ ⟨65,n,0,[]⟩=ie n:=rfl
  rw [ix,this,aE];omega
 ·have:fZ ⟨66,n,0,[]⟩=ie n:=rfl
  rw [ix,this,aE];omega
theorem sd {v:eX} (h:v.ok):(lR v).length <=12:=by
 have:=yI v.n h.2 (if v.kind=2 then 66 else 65) (by split <;>simp);simp only [lR,ah,aB];omega
theorem F8 {x:jz} (h:x.init.ok):(kQ x).length <=14:=by
 have:=sd h;simp only [kQ,iS,ah,aE,aL];omega
theorem Hp {x:iU} (h:x.may):(oM x).length <=100:=by
 have a:=nI h.1;have c:=rK x.func;simp only [oM,aE,ah];omega
theorem pJ {n:Int} (h:lV n):(ns n).length <=13:=by
 have:=sd (v:=⟨1,n⟩) ⟨⟨by show(-9223372036854775808:Int) <=1;decide,by show(1:Int) <=9223372036854775807;decide⟩,by have:=h.1;show(-9223372036854775808:Int) <=n;omega,by have:=h.2;show n <=(9223372036854775807:Int);omega⟩;simp only [ns,aE];omega
theorem Gm {x:jh} (h:x.may):(lP x).length <=600:=by
 have a:=pJ h.1;have b:=ji sR 10 50 x.funcs (fun y _=>rK y) h.2.1;simp only [lP,ah];omega
theorem Hu {x:gR} (h:x.may):(oB x).length <=1100:=by
 have a:=pJ h.1;have b:=(eL x.bytes.length).2;have:=h.2;simp only [oB,ah];omega
theorem Iy (x:Nat × Int):(xA x).length <=11:=by
 have:=(eL x.1).2;simp only [xA,iS,ah,aE,aL];omega
theorem ud {l:List Int} (h:l.length <=32):(lx l).length <=400:=by
 have h1:=pC l;have:=ji xA 11 32 (gp l) (fun x _=>Iy x) (by omega);simp only [lx];omega
structure mJ where
 op:Int
 kind:Int
 eJ:Nat
 dead:Bool
deriving DecidableEq
structure eH where
 dX:List Int
 eM:List mJ
 bad:Bool
deriving DecidableEq
def eH.need (c:eH) (ok:Bool):eH:={c with bad:=c.bad || !ok}
def eH.push (c:eH) (l:List Int):eH:={c with dX:=c.dX++l}
def eH.top (c:eH):mJ:=c.eM.getLast?.getD ⟨0,0,0,false⟩
def eH.pop (c:eH) (want:Int):Int × eH:=
 if c.dX.length=c.top.eJ then(want,c.need c.top.dead)
 else if c.dX.getLast?.getD 0=0 then(want,{c with dX:=c.dX.dropLast})
 else(c.dX.getLast?.getD 0,({c with dX:=c.dX.dropLast}:eH).need (want==0 || c.dX.getLast?.getD 0==want))
def eH.nt (c:eH):List Int ->eH
 | []=>c
 | k::l=>(c.pop k).2.nt l
def eH.fL (c:eH) (l:List Int):eH:=c.nt l.reverse
def gx (k:Int):List Int:=if k=0 then []else [k]
def eH.begin (c:eH) (op kind:Int):eH:={c with eM:=c.eM++[⟨op,kind,c.dX.length,false⟩]}
def eH.Cr (c:eH):eH:=(c.fL (gx c.top.kind)).need ((c.fL (gx c.top.kind)).dX.length==c.top.eJ)
def eH.shut (c:eH):mJ × eH:=(c.top,{c.Cr with eM:=c.Cr.eM.dropLast})
def eH.dead (c:eH):eH:={c with dX:=c.dX.take c.top.eJ,eM:=c.eM.dropLast++[{c.top with dead:=true}]}
def eH.xQ (c:eH) (n:Int):mJ:=(c.eM[c.eM.length - 1 - n.toNat]?).getD ⟨0,0,0,false⟩
def eH.label (c:eH) (n:Int):List Int × eH:=
 if(c.eM.length:Int) <=n then([],{c with bad:=true})else(if(c.xQ n).op=3 then []else gx (c.xQ n).kind,c)
def typeOf (m:eu) (t:Int):gw × Bool:=if t < 0\/(m.types.length:Int) <=t then(⟨[],[]⟩,false)else((m.types[t.toNat]?).getD ⟨[],[]⟩,true)
def gm (m:eu) (f:Int):gw × Bool:=
 typeOf m (if f < m.imports.length then((m.imports[f.toNat]?).map jD.type).getD 0 else if f - m.imports.length < m.funcs.length then(m.funcs[(f - m.imports.length).toNat]?).getD 0 else -1)
def eH.calls (c:eH) (t:gw × Bool):eH:=((c.need t.2).fL t.1.params).push t.1.results
def eH.Cs (c:eH) (want:List Int):List Int ->eH
 | []=>c
 | n::l=>((c.label n).2.need (((c.label n).1.length==want.length)&&((c.label n).1.length==0 || (c.label n).1.head?==want.head?))).Cs want l
def eH.table (c:eH) (x:eP):eH:=((((c.pop 1).2.label x.a).2.Cs ((c.pop 1).2.label x.a).1 x.l).fL ((c.pop 1).2.label x.a).1).dead
def eH.control (m:eu) (c:eH) (x:eP):Option eH:=
 if x.op=0 then some c.dead
 else if x.op=1 then some c
 else if x.op=2\/x.op=3 then some (c.begin x.op x.a)
 else if x.op=4 then some ((c.pop 1).2.begin x.op x.a)
 else if x.op=5 then some (c.shut.2.begin 5 c.shut.1.kind)
 else if x.op=11 then some ((c.shut.2.need (c.shut.1.op !=4 || c.shut.1.kind==0)).push (gx c.shut.1.kind))
 else if x.op=12 then some ((c.label x.a).2.fL (c.label x.a).1).dead
 else if x.op=13 then some ((((c.pop 1).2.label x.a).2.fL ((c.pop 1).2.label x.a).1).push ((c.pop 1).2.label x.a).1)
 else if x.op=14 then some (c.table x)
 else if x.op=15 then some (c.fL (gx ((c.eM.head?.map mJ.kind).getD 0))).dead
 else if x.op=16 then some (c.calls (gm m x.a))
 else if x.op=17 then some (((c.need m.table.has).pop 1).2.calls (typeOf m x.a))
 else none
def eH.local (ls:List Int) (c:eH) (n:Int):Int × eH:=if(ls.length:Int) <=n then(0,{c with bad:=true})else((ls[n.toNat]?).getD 0,c)
def eH.global (m:eu) (c:eH) (n:Int):jz × eH:=if(m.globals.length:Int) <=n then(⟨false,⟨0,0⟩⟩,{c with bad:=true})else((m.globals[n.toNat]?).getD ⟨false,⟨0,0⟩⟩,c)
def eH.access (m:eu) (c:eH) (x:eP) (align:Int) (takes makes:List Int):eH:=((c.need (m.mem.has&&decide (x.a <=align))).fL takes).push makes
def eH.plain (m:eu) (ls:List Int) (c:eH) (x:eP):eH:=
 if x.op=26 then(c.pop 0).2
 else if x.op=27 then((((c.pop 1).2.pop 0).2.pop ((c.pop 1).2.pop 0).1).2).push [(((c.pop 1).2.pop 0).2.pop ((c.pop 1).2.pop 0).1).1]
 else if x.op=32 then(c.local ls x.a).2.push [(c.local ls x.a).1]
 else if x.op=33 then((c.local ls x.a).2.pop (c.local ls x.a).1).2
 else if x.op=34 then(((c.local ls x.a).2.pop (c.local ls x.a).1).2.local ls x.a).2.push [(((c.local ls x.a).2.pop (c.local ls x.a).1).2.local ls x.a).1]
 else if x.op=35 then(c.global m x.a).2.push [(c.global m x.a).1.init.kind]
 else if x.op=36 then(((c.global m x.a).2.need (c.global m x.a).1.isVar).pop (c.global m x.a).1.init.kind).2
 else if x.op=40 then c.access m x 2 [1] [1]
 else if x.op=41 then c.access m x 3 [1] [2]
 else if x.op=44\/x.op=45 then c.access m x 0 [1] [1]
 else if x.op=54 then c.access m x 2 [1,1] []
 else if x.op=55 then c.access m x 3 [1,2] []
 else if x.op=58 then c.access m x 0 [1,1] []
 else if x.op=63 then c.access m x 0 [] [1]
 else if x.op=64 then c.access m x 0 [1] [1]
 else if x.op=65 then c.push [1]
 else if x.op=66 then c.push [2]
 else((c.need (eQ x.op).2.2).fL (eQ x.op).1).push [(eQ x.op).2.1]
def eH.step (m:eu) (ls:List Int) (c:eH) (x:eP):eH:=(c.control m x).getD (c.plain m ls x)
def eH.run (m:eu) (ls:List Int):eH ->List eP ->Option eH
 | c,[]=>some c
 | c,x::l=>if(c.step m ls x).bad=true then none else eH.run m ls (c.step m ls x) l
def gF (m:eu) (k:Int):Bool:=
 if k < 0\/(m.eh.length:Int) <=k\/(m.funcs.length:Int) <=k then false
 else
  let code:=(m.eh[k.toNat]?).getD ⟨[],[]⟩
  let t:=typeOf m ((m.funcs[k.toNat]?).getD 0)
  if t.2=false\/(fJ code.body).isSome=false then false
  else
   let ls:=t.1.params++code.locals
   match eH.run m ls (({dX:=[],eM:=[],bad:=false}:eH).begin 2 (t.1.results.head?.getD 0)) code.body with
   | none=>false
   | some c=> !c.shut.2.bad&&decide (ls.length <=32)
theorem eH.mR (c:eH) (b:Bool):(c.need b).eM=c.eM:=rfl
theorem eH.wV (c:eH) (b:Bool):(c.need b).dX=c.dX:=rfl
theorem eH.ui (c:eH) (l:List Int):(c.push l).eM=c.eM:=rfl
theorem eH.pK (c:eH) (k:Int):(c.pop k).2.eM=c.eM:=by
 unfold eH.pop;split
 ·rfl
 ·split <;>rfl
theorem eH.rF:∀(l:List Int) (c:eH),(c.nt l).eM=c.eM
 | [],c=>rfl
 | k::l,c=>by rw [eH.nt,eH.rF l,eH.pK]
theorem eH.ik (c:eH) (l:List Int):(c.fL l).eM=c.eM:=eH.rF _ _
def eH.sound (c:eH):Prop:=(∀x∈c.eM,x.eJ <=c.dX.length)/\c.eM.Pairwise fun a b=>a.eJ <=b.eJ
theorem eH.Ie {c:eH} (h:c.eM≠[]):c.top∈c.eM:=by
 unfold eH.top;rw [List.getLast?_eq_some_getLast h];exact List.getLast_mem h
theorem eH.sound.top {c:eH} (h:c.sound) (hn:c.eM≠[]):c.top.eJ <=c.dX.length:=h.1 _ (eH.Ie hn)
theorem eH.sound.le_top {c:eH} (h:c.sound) (hn:c.eM≠[]):∀x∈c.eM,x.eJ <=c.top.eJ:=by
 intro x hx;obtain⟨l,t,hl⟩:∃l t,c.eM=l++[t]:=⟨c.eM.dropLast,c.eM.getLast hn,(db hn).symm⟩;have ht:c.top=t:=by
  unfold eH.top;rw [hl];simp
 rw [ht];rw [hl]at hx;have hp:=h.2;rw [hl,cV]at hp;rcases bT.1 hx with h1 | h1
 ·exact hp.2.2 x h1 t (by simp)
 ·rw [aV.1 h1]
  exact ag _
theorem eH.sound.pop {c:eH} (h:c.sound) (hn:c.eM≠[]) (k:Int):(c.pop k).2.sound:=by
 have ht:=h.top hn;have hle:=h.le_top hn;unfold eH.pop;split
 ·exact h
 ·rename_i MO
  have key:(({c with dX:=c.dX.dropLast}:eH)).sound:=⟨fun x hx=>by
   have:=hle x hx;simp only [dm];omega,h.2⟩
  split
  ·exact key
  ·exact key
theorem eH.sound.nt:∀(l:List Int) {c:eH},c.sound ->c.eM≠[] ->(c.nt l).sound
 | [],_,h,_=>h
 | k::l,c,h,hn=>eH.sound.nt l (h.pop hn k) (by rw [eH.pK];exact hn)
theorem eH.sound.fL {c:eH} (h:c.sound) (hn:c.eM≠[]) (l:List Int):(c.fL l).sound:=eH.sound.nt _ h hn
theorem eH.sound.push {c:eH} (h:c.sound) (l:List Int):(c.push l).sound:=⟨fun x hx=>by
 have:=h.1 x hx;simp only [eH.push,ah];omega,h.2⟩
theorem eH.sound.begin {c:eH} (h:c.sound) (op kind:Int):(c.begin op kind).sound:=by
 refine⟨fun x hx=>?_,?_⟩
 ·rcases bT.1 hx with h1 | h1
  ·exact h.1 x h1
  ·rw [aV.1 h1]
   exact ag _
 ·show(c.eM++[_]).Pairwise _
  rw [cV];exact⟨h.2,by simp,fun a ha b hb=>by rw [aV.1 hb];exact h.1 a ha⟩
theorem eD.sj {w:World} {X:Nat} {t:TypeId} {x0 x1 x2 x3 x4:Value} (h:eD w X #[x0,x1,x2,x3,x4] t):
  w.cell? ⟨X,0,none⟩=some x0/\w.cell? ⟨X,1,none⟩=some x1/\w.cell? ⟨X,2,none⟩=some x2/\w.cell? ⟨X,3,none⟩=some x3/\w.cell? ⟨X,4,none⟩=some x4:=⟨h.cell 0,h.cell 1,h.cell 2,h.cell 3,h.cell 4⟩
theorem eD.three {w:World} {X:Nat} {t:TypeId} {x0 x1 x2:Value} (h:eD w X #[x0,x1,x2] t):
  w.cell? ⟨X,0,none⟩=some x0/\w.cell? ⟨X,1,none⟩=some x1/\w.cell? ⟨X,2,none⟩=some x2:=⟨h.cell 0,h.cell 1,h.cell 2⟩
def mU (f:eR):Bool:= !decide f.may
theorem CS (l:List eX):l.any uN=false↔∀v∈l,v.may:=by
 rw [dy]
 constructor
 ·intro h v hv
  have:=h v hv;simpa [uN] using this
 ·intro h v hv
  simpa [uN] using h v hv
theorem I7 (l:List kN):l.any sQ=false↔∀v∈l,v.may:=by
 rw [dy]
 constructor
 ·intro h v hv
  have:=h v hv;simpa [sQ] using this
 ·intro h v hv
  simpa [sQ] using h v hv
theorem Ip (l:List eR):l.any mU=false↔∀v∈l,v.may:=by
 rw [dy]
 constructor
 ·intro h v hv
  have:=h v hv;simpa [mU] using this
 ·intro h v hv
  simpa [mU] using h v hv
theorem vK (f:eR) (u x:Value) (w:World) (hu:ee 2 fD w u f.locals) (hx:ee 2 kg w x f.labels):
  Calls prog 247 #[.agg #[.int .i64 f.fn, .int .i64 f.pc,u, .int .i64 f.base,x]] w (ew (mU f) w):=by
 have HU:=V hu;have HV:=V hx;obtain⟨au,LB,rfl,_,hcu,_⟩:=hu;obtain⟨ax,Mt,rfl,_,hcx,_⟩:=hx;unfold maxLen at hcu hcx;have hbad:∀b,(f.may ->b=false) ->(b=false ->f.may) ->mU f=b:=by
  intro b h1 h2;by_cases h:f.may
  ·rw [mU,ay h,h1 h];rfl
  ·cases b
   ·exact absurd (h2 rfl) h
   ·rw [mU,aw h];rfl
 have HBAD:=V (show ¬ f.may ->mU f=true from fun h=>by rw [mU,aw h];rfl);have HGOOD:=V (show f.may ->mU f=false from fun h=>by rw [mU,ay h];rfl);have HL:=V (I7 f.labels);have HLV:=V (CS f.locals);clear hbad;go_enter func247,ntmps247;go_wp2_with fail;have MI:=eD.new w #[.int .i64 f.fn, .int .i64 f.pc, .slice au f.locals.length LB, .int .i64 f.base, .slice ax f.labels.length Mt] 124;refine(zU _ f.labels _ (HV.out.below ((an _ _).alloc (ag _) _))).mono ?_;rintro y w1 ⟨rfl,LG⟩;replace MI:=MI.below LG (by simp);have hb:Below w.heap.size w w1:=((an w.heap.size w).alloc (ag _) _).trans (LG.mono (by simp));clear LG;obtain⟨x0,x1,x2,x3,x4⟩:=MI.sj;cases q1:f.labels.any sQ with
 | true=>
  have Q1:=V q1;clear q1 MI;have HX:=V (show mU f=true from HBAD.out (fun h=>by have:=HL.out.2 h.1;rw [Q1.out]at this;cases this));go_wp2;go_ret;exact⟨by rw [HX.out];rfl,hb⟩
 | false=>
  have Q1:=V (HL.out.1 q1);clear q1;by_cases q2:40 < f.labels.length
  ·have f2:decide (40 < (f.labels.length:Int))=true:=ay (by omega)
   clear MI;have HX:=V (show mU f=true from HBAD.out (fun h=>by have:=h.2.1;omega));go_wp2;go_ret;exact⟨by rw [HX.out];rfl,hb⟩
  have f2:decide (40 < (f.labels.length:Int))=false:=aw (by omega);by_cases q3:32 < f.locals.length
  ·have f3:decide (32 < (f.locals.length:Int))=true:=ay (by omega)
   clear MI;have HX:=V (show mU f=true from HBAD.out (fun h=>by have:=h.2.2.1;omega));go_wp2;go_ret;exact⟨by rw [HX.out];rfl,hb⟩
  have f3:decide (32 < (f.locals.length:Int))=false:=aw (by omega);go_wp2_with fail;refine(tL _ f.locals _ (HU.out.below (hb.mono (ag _)))).mono ?_;rintro y w2 ⟨rfl,Lw⟩;replace MI:=MI.below Lw MI.lt;replace hb:=dT hb Lw;clear Lw x0 x1 x2 x3 x4;obtain⟨x0,x1,x2,x3,x4⟩:=MI.sj;clear MI;cases q4:f.locals.any uN with
  | true=>
   have Q4:=V q4;clear q4;have HX:=V (show mU f=true from HBAD.out (fun h=>by have:=HLV.out.2 h.2.2.2.1;rw [Q4.out]at this;cases this));go_wp2;go_ret;exact⟨by rw [HX.out];rfl,hb⟩
  | false=>
   have Q4:=V (HLV.out.1 q4);clear q4;go_wp2_with fail;have hl:=DV w2 f.fn f.pc f.base 3;refine(wO _ _ _ hl).mono ?_;rintro y w3 ⟨rfl,LZ⟩;replace hb:=dT hb (((an w2.heap.size w2).alloc (ag _) _).trans (LZ.mono (by simp)));clear LZ x0 x1 x2 x3 x4 hl;cases q5:[f.fn,f.pc,f.base].any pz with
   | true=>
    have Q5:=V q5;clear q5;have HX:=V (show mU f=true from HBAD.out (fun h=>by have g:=Q5.out;simp [kH.2 h.2.2.2.2.1,kH.2 h.2.2.2.2.2.1,kH.2 h.2.2.2.2.2.2]at g));go_wp2;go_ret;exact⟨by rw [HX.out];rfl,hb⟩
   | false=>
    have Q5:=V q5;clear q5;have HX:=V (show mU f=false from HGOOD.out (by have g:=Q5.out;simp at g;exact⟨Q1.out,by omega,by omega,Q4.out,kH.1 g.1,kH.1 g.2.1,kH.1 g.2.2⟩));go_wp2;go_ret;exact⟨by rw [HX.out];rfl,hb⟩
theorem xG (v:Value) (l:List eR) (w:World) (hl:fS w v l):
  Calls prog 300 #[v, .func (.func 247) #[] #[]] w (jM mU l w):=by
 have HI:=V hl;obtain⟨a,cap,rfl,h1,h2⟩:=hl.slice;clear hl;go_enter func300,ntmps300;go_wp2_with fail;refine eC (fun a' w'=>∃(k:Nat),a'=fr (.slice a l.length cap:: .func (.func 247) #[] #[]::gs a' 2 5 (.int .i64 l.length:: .int .i64 k::gs a' 9 10 []))/\pR mU l w w' k) (fun a' _=>(l.length - (intOf (a'.tmps.getD 8 undef)).toNat)) ?_ ?_
 ·exact⟨0,rfl,by omega,fun i hi=>by omega,an _ _⟩
 ·skip
  rintro R a' w1 ⟨k,Lv,hJ⟩ HR;dsimp only [fr,gs]at Lv;generalize slot a'=f at Lv;subst Lv;obtain⟨hk,hm,hb⟩:=hJ;have Ma:=V hm;clear hm;by_cases Mi:k < l.length;rotate_left
  ·obtain rfl:k=l.length:=by omega
   go_wp2;go_ret;exact⟨by rw [gJ Ma.out];rfl,hb⟩
  obtain⟨e,he⟩:∃e,l[k]?=some e:=⟨_,aq Mi⟩;obtain⟨b,off,u,x,rfl,LD,⟨c0,c1,c2,c3,c4⟩,hu,hx,-⟩:=(HI.out.below (hb.mono (ag _))).get he;have LC:=vK e u x w1 hu hx;obtain⟨au,LB,rfl,-,-,-⟩:=hu;obtain⟨ax,Mt,rfl,-,-,-⟩:=hx;have HE:=V he;clear he;cases hq:mU e
  all_goals
   rw [hq]at LC;have HQ:=V hq;clear hq;go_wp2_with fail;refine LC.mono ?_;rintro x w2 ⟨rfl,Lw⟩;replace hb:=dT hb Lw;clear LC Lw c0 c1 c2 c3 c4;go_wp2_with fail
  ·refine HR.out _ _ ⟨k+1,rfl,by omega,?_,hb⟩ ?_
   ·intro i hi d hd
    rcases bx i k with h | h
    ·exact Ma.out i h d hd
    ·obtain rfl:i=k:=by omega
     rw [HE.out]at hd;injection hd with hd;rw [<- hd];exact HQ.out
   ·simp [intOf]
    omega
  ·go_ret
   exact⟨by rw [ic HE.out HQ.out Ma.out];rfl,hb⟩
theorem Ak (v:Value) (l:List eR) (w:World) (hl:fS w v l):
  Calls prog 246 #[v, .func (.func 247) #[] #[]] w (ew (l.any mU) w):=by
 go_enter func246,ntmps246;go_wp2_with fail;refine(xG v l _ hl).mono ?_;rintro x w2 ⟨rfl,hb⟩;go_wp2;go_ret;exact⟨by rw [<- ir];rfl,hb⟩
theorem od (uv uf:Value) (s:fy) (w:World) (hs:jl w uv uf s):
  Calls prog 139 #[.agg #[uv,uf, .int .i64 s.asks]] w (ew (decide s.may) w):=by
 have HS:=V hs;obtain⟨hv,hf,⟨⟨o1,o2⟩,-,-⟩⟩:=hs;obtain⟨av,LU,rfl,_,M6,_⟩:=hv;obtain⟨af,MY,rfl,_,P7⟩:=hf.slice;unfold maxLen at M6;have HL:=V (Ip s.eg);have HLV:=V (CS s.dX);clear hf;have hb:Below w.heap.size w (w.alloc (.cells #[.slice av s.dX.length LU, .slice af s.eg.length MY, .int .i64 s.asks] 60)):=(an _ _).alloc (ag _) _;go_enter func139,ntmps139;by_cases q1:1000 < s.dX.length
 ·have f1:decide (1000 < (s.dX.length:Int))=true:=ay (by omega)
  have HX:=V (show decide s.may=false from aw (fun h=>by have:=h.1;omega));go_wp2;go_ret;exact⟨by rw [HX.out];rfl,hb⟩
 have f1:decide (1000 < (s.dX.length:Int))=false:=aw (by omega);by_cases q2:32 < s.eg.length
 ·have f2:decide (32 < (s.eg.length:Int))=true:=ay (by omega)
  have HX:=V (show decide s.may=false from aw (fun h=>by have:=h.2.1;omega));go_wp2;go_ret;exact⟨by rw [HX.out];rfl,hb⟩
 have f2:decide (32 < (s.eg.length:Int))=false:=aw (by omega);by_cases q3:s.asks < -1
 ·have f3:decide (s.asks < -1)=true:=ay q3
  have HX:=V (show decide s.may=false from aw (fun h=>by have:=h.2.2.1;omega));go_wp2;go_ret;exact⟨by rw [HX.out];rfl,hb⟩
 have f3:decide (s.asks < -1)=false:=aw q3;by_cases q4:10000 < s.asks
 ·have f4:decide (10000 < s.asks)=true:=ay q4
  have HX:=V (show decide s.may=false from aw (fun h=>by have:=h.2.2.2.1;omega));go_wp2;go_ret;exact⟨by rw [HX.out];rfl,hb⟩
 have f4:decide (10000 < s.asks)=false:=aw q4;go_wp2_with fail;have MI:=eD.new w #[.slice av s.dX.length LU, .slice af s.eg.length MY, .int .i64 s.asks] 60;refine(tL _ s.dX _ (HS.out.1.below (hb.mono (ag _)))).mono ?_;rintro y w1 ⟨rfl,LG⟩;replace MI:=MI.below LG (by simp);have hb:=hb.trans (LG.mono hb.size);clear LG;obtain⟨x0,x1,x2⟩:=MI.three;clear MI;cases q5:s.dX.any uN with
 | true=>
  have Q5:=V q5;clear q5;have HX:=V (show decide s.may=false from aw (fun h=>by have:=HLV.out.2 h.2.2.2.2.1;rw [Q5.out]at this;cases this));go_wp2;go_ret;exact⟨by rw [HX.out];rfl,hb⟩
 | false=>
  have Q5:=V (HLV.out.1 q5);clear q5;go_wp2_with fail;refine(Ak _ s.eg _ (HS.out.2.1.below (hb.mono (ag _)))).mono ?_;rintro y w2 ⟨rfl,Lw⟩;replace hb:=dT hb Lw;clear Lw x0 x1 x2;cases q6:s.eg.any mU with
  | true=>
   have Q6:=V q6;clear q6;have HX:=V (show decide s.may=false from aw (fun h=>by have:=HL.out.2 h.2.2.2.2.2;rw [Q6.out]at this;cases this));go_wp2;go_ret;exact⟨by rw [HX.out];rfl,hb⟩
  | false=>
   have Q6:=V (HL.out.1 q6);clear q6;have HX:=V (show decide s.may=true from ay ⟨by omega,by omega,by omega,by omega,Q5.out,Q6.out⟩);go_wp2;go_ret;exact⟨by rw [HX.out];rfl,hb⟩
def nW {α:Type} (la lb:List α) (w:World) (e:Ending) (w':World):Prop:=∃r:Bool,e= .returned (.bool r)/\(r=true↔la=lb)/\Below w.heap.size w w'
def AS {α:Type} (la lb:List α) (w w':World) (k:Nat):Prop:=k <=la.length/\la.take k=lb.take k/\Below w.heap.size w w'
def tj (b off b2 LX k:Nat) (e d:eX) (w:World):Prop:=
 (w.cell? ⟨b,off+k*2,none⟩=some (.int .i64 e.kind)/\w.cell? ⟨b,off+k*2+1,none⟩=some (.int .i64 e.n))/\
 w.cell? ⟨b2,LX+k*2,none⟩=some (.int .i64 d.kind)/\w.cell? ⟨b2,LX+k*2+1,none⟩=some (.int .i64 d.n)
def qW (b off b2 LX k:Nat) (e d:kN) (w:World):Prop:=
 (w.cell? ⟨b,off+k*2,none⟩=some (.int .i64 e.pos)/\w.cell? ⟨b,off+k*2+1,none⟩=some (.int .i64 e.eJ))/\
 w.cell? ⟨b2,LX+k*2,none⟩=some (.int .i64 d.pos)/\w.cell? ⟨b2,LX+k*2+1,none⟩=some (.int .i64 d.eJ)
theorem sx (va vb:Value) (la lb:List eX) (w:World) (ha:ee 2 fD w va la) (hb:ee 2 fD w vb lb):Calls prog 251 #[va,vb] w (nW la lb w):=by
 have HA:=V ha;have HB:=V hb;obtain⟨a,cap,rfl,h1,h2,_⟩:=ha;obtain⟨a2,LA,rfl,h3,h4,_⟩:=hb;unfold maxLen at h2 h4;by_cases hlen:la.length=lb.length;rotate_left
 ·have f1:(((la.length:Int)) !=((lb.length:Int)))=true:=fa (by omega)
  have HL:=V hlen;clear hlen;go_enter func251,ntmps251;go_wp2;go_ret;exact⟨false,rfl,⟨fun h=>(by cases h),fun h=>absurd (cU List.length h) HL.out⟩,an _ _⟩
 rw [<- hlen]at h3⊢;have HL:=V hlen;clear hlen;go_enter func251,ntmps251;go_wp2_with fail;refine eC (fun a' w'=>∃(k:Nat),a'=fr (.slice a la.length cap:: .slice a2 la.length LA::gs a' 2 10 (.int .i64 la.length:: .int .i64 k::gs a' 14 12 []))/\AS la lb w w' k) (fun a' _=>(la.length - (intOf (a'.tmps.getD 13 undef)).toNat)) ?_ ?_
 ·exact⟨0,rfl,by omega,rfl,an _ _⟩
 ·skip
  rintro R a' w1 ⟨k,Lv,hJ⟩ HR;dsimp only [fr,gs]at Lv;generalize slot a'=f at Lv;subst Lv;obtain⟨hk,O2,hb⟩:=hJ;have HT:=V O2;clear O2;by_cases Mi:k < la.length;rotate_left
  ·obtain rfl:k=la.length:=by omega
   go_wp2;go_ret;refine⟨true,rfl,⟨fun _=>?_,fun _=>rfl⟩,hb⟩;have:=HT.out;rw [aU,HL.out,aU]at this;exact this
  obtain⟨e,he⟩:∃e,la[k]?=some e:=⟨_,aq Mi⟩;obtain⟨d,hd⟩:∃d,lb[k]?=some d:=⟨_,aq (by have:=HL.out;omega)⟩;obtain⟨a',LQ,hv,_,_,Lt⟩:=HA.out.below (hb.mono (ag _));obtain⟨a2',cap2',MS,_,_,Mw⟩:=HB.out.below (hb.mono (ag _));injection hv with e1 e2 e3;injection MS with e4 e5 e6;subst e1 e3 e4 e6;obtain⟨b,off,rfl,LD,hc⟩:=Lt k e he;obtain⟨b2,LX,rfl,Nf,MF⟩:=Mw k d hd;have c0:=hc 0 _ rfl;have c1:=hc 1 _ rfl;have c2:=MF 0 _ rfl;have c3:=MF 1 _ rfl;rw [aI]at c0 c2;have HE:=V he;have HD:=V hd;have cc:tj b off b2 LX k e d w1.drew:=⟨⟨c0,c1⟩,c2,c3⟩;have CC:=V cc;clear Lt Mw e2 e5 he hd hc MF c0 c1 c2 c3 cc;by_cases q1:e.kind=d.kind
  ·have f1:=eI q1
   have Q1:=V q1;clear q1;by_cases q2:e.n=d.n
   ·have f2:=eI q2
    have Q2:=V q2;clear q2;go_wp2_with fail;refine ea (tj b off b2 LX k e d) (up 0 9 []) (by kernel_rfl) (by kernel_rfl) CC.out ?_;iterate 8 (first | (apply sk rfl rfl;simp only [pt]) | (apply dV rfl rfl rfl;·(rintro w' ⟨⟨t0,t1⟩,t2,t3⟩;go_wp2;exact⟨rfl,rfl,rfl⟩)))
    iterate 1 (first | (apply sk rfl rfl;simp only [pt]) | (apply dV rfl rfl rfl;·(rintro w' ⟨⟨t0,t1⟩,t2,t3⟩;go_wp2;exact⟨rfl,rfl,rfl⟩)))
    refine eF ?_;refine aA ?_;go_wp2;refine HR.out _ _ ⟨k+1,rfl,by omega,?_,hb.drew⟩ ?_
    ·rw [aR,aR,HT.out,HE.out,HD.out]
     obtain⟨x0,x1⟩:=e;obtain⟨y0,y1⟩:=d;have g0:=Q1.out;have g1:=Q2.out;simp only at g0 g1;rw [g0,g1]
    ·simp [intOf]
     omega
   ·have f2:=dR q2
    have HX:=V (show e.n≠d.n from q2);clear q2;go_wp2_with fail;refine ea (tj b off b2 LX k e d) (up 0 9 []) (by kernel_rfl) (by kernel_rfl) CC.out ?_;iterate 8 (first | (apply sk rfl rfl;simp only [pt]) | (apply dV rfl rfl rfl;·(rintro w' ⟨⟨t0,t1⟩,t2,t3⟩;go_wp2;exact⟨rfl,rfl,rfl⟩)))
    iterate 1 (first | (apply sk rfl rfl;simp only [pt]) | (apply dV rfl rfl rfl;·(rintro w' ⟨⟨t0,t1⟩,t2,t3⟩;go_wp2;exact⟨rfl,rfl,rfl⟩)))
    refine eF ?_;refine aA ?_;go_wp2;go_ret;refine⟨false,rfl,⟨fun h=>(by cases h),fun h=>?_⟩,hb.drew⟩;have h1:=HE.out;rw [h,HD.out]at h1;injection h1 with h1;exact(HX.out (by rw [h1])).elim
  ·have f1:=dR q1
   have HX:=V (show e.kind≠d.kind from q1);clear q1;go_wp2_with fail;refine ea (tj b off b2 LX k e d) (up 0 9 []) (by kernel_rfl) (by kernel_rfl) CC.out ?_;iterate 8 (first | (apply sk rfl rfl;simp only [pt]) | (apply dV rfl rfl rfl;·(rintro w' ⟨⟨t0,t1⟩,t2,t3⟩;go_wp2;exact⟨rfl,rfl,rfl⟩)))
   iterate 1 (first | (apply sk rfl rfl;simp only [pt]) | (apply dV rfl rfl rfl;·(rintro w' ⟨⟨t0,t1⟩,t2,t3⟩;go_wp2;exact⟨rfl,rfl,rfl⟩)))
   refine eF ?_;refine aA ?_;go_wp2;go_ret;refine⟨false,rfl,⟨fun h=>(by cases h),fun h=>?_⟩,hb.drew⟩;have h1:=HE.out;rw [h,HD.out]at h1;injection h1 with h1;exact(HX.out (by rw [h1])).elim
theorem xB (va vb:Value) (la lb:List kN) (w:World) (ha:ee 2 kg w va la) (hb:ee 2 kg w vb lb):Calls prog 254 #[va,vb] w (nW la lb w):=by
 have HA:=V ha;have HB:=V hb;obtain⟨a,cap,rfl,h1,h2,_⟩:=ha;obtain⟨a2,LA,rfl,h3,h4,_⟩:=hb;unfold maxLen at h2 h4;by_cases hlen:la.length=lb.length;rotate_left
 ·have f1:(((la.length:Int)) !=((lb.length:Int)))=true:=fa (by omega)
  have HL:=V hlen;clear hlen;go_enter func254,ntmps254;go_wp2;go_ret;exact⟨false,rfl,⟨fun h=>(by cases h),fun h=>absurd (cU List.length h) HL.out⟩,an _ _⟩
 rw [<- hlen]at h3⊢;have HL:=V hlen;clear hlen;go_enter func254,ntmps254;go_wp2_with fail;refine eC (fun a' w'=>∃(k:Nat),a'=fr (.slice a la.length cap:: .slice a2 la.length LA::gs a' 2 10 (.int .i64 la.length:: .int .i64 k::gs a' 14 12 []))/\AS la lb w w' k) (fun a' _=>(la.length - (intOf (a'.tmps.getD 13 undef)).toNat)) ?_ ?_
 ·exact⟨0,rfl,by omega,rfl,an _ _⟩
 ·skip
  rintro R a' w1 ⟨k,Lv,hJ⟩ HR;dsimp only [fr,gs]at Lv;generalize slot a'=f at Lv;subst Lv;obtain⟨hk,O2,hb⟩:=hJ;have HT:=V O2;clear O2;by_cases Mi:k < la.length;rotate_left
  ·obtain rfl:k=la.length:=by omega
   go_wp2;go_ret;refine⟨true,rfl,⟨fun _=>?_,fun _=>rfl⟩,hb⟩;have:=HT.out;rw [aU,HL.out,aU]at this;exact this
  obtain⟨e,he⟩:∃e,la[k]?=some e:=⟨_,aq Mi⟩;obtain⟨d,hd⟩:∃d,lb[k]?=some d:=⟨_,aq (by have:=HL.out;omega)⟩;obtain⟨a',LQ,hv,_,_,Lt⟩:=HA.out.below (hb.mono (ag _));obtain⟨a2',cap2',MS,_,_,Mw⟩:=HB.out.below (hb.mono (ag _));injection hv with e1 e2 e3;injection MS with e4 e5 e6;subst e1 e3 e4 e6;obtain⟨b,off,rfl,LD,hc⟩:=Lt k e he;obtain⟨b2,LX,rfl,Nf,MF⟩:=Mw k d hd;have c0:=hc 0 _ rfl;have c1:=hc 1 _ rfl;have c2:=MF 0 _ rfl;have c3:=MF 1 _ rfl;rw [aI]at c0 c2;have HE:=V he;have HD:=V hd;have cc:qW b off b2 LX k e d w1.drew:=⟨⟨c0,c1⟩,c2,c3⟩;have CC:=V cc;clear Lt Mw e2 e5 he hd hc MF c0 c1 c2 c3 cc;by_cases q1:e.pos=d.pos
  ·have f1:=eI q1
   have Q1:=V q1;clear q1;by_cases q2:e.eJ=d.eJ
   ·have f2:=eI q2
    have Q2:=V q2;clear q2;go_wp2_with fail;refine ea (qW b off b2 LX k e d) (up 0 9 []) (by kernel_rfl) (by kernel_rfl) CC.out ?_;iterate 8 (first | (apply sk rfl rfl;simp only [pt]) | (apply dV rfl rfl rfl;·(rintro w' ⟨⟨t0,t1⟩,t2,t3⟩;go_wp2;exact⟨rfl,rfl,rfl⟩)))
    iterate 1 (first | (apply sk rfl rfl;simp only [pt]) | (apply dV rfl rfl rfl;·(rintro w' ⟨⟨t0,t1⟩,t2,t3⟩;go_wp2;exact⟨rfl,rfl,rfl⟩)))
    refine eF ?_;refine aA ?_;go_wp2;refine HR.out _ _ ⟨k+1,rfl,by omega,?_,hb.drew⟩ ?_
    ·rw [aR,aR,HT.out,HE.out,HD.out]
     obtain⟨x0,x1⟩:=e;obtain⟨y0,y1⟩:=d;have g0:=Q1.out;have g1:=Q2.out;simp only at g0 g1;rw [g0,g1]
    ·simp [intOf]
     omega
   ·have f2:=dR q2
    have HX:=V (show e.eJ≠d.eJ from q2);clear q2;go_wp2_with fail;refine ea (qW b off b2 LX k e d) (up 0 9 []) (by kernel_rfl) (by kernel_rfl) CC.out ?_;iterate 8 (first | (apply sk rfl rfl;simp only [pt]) | (apply dV rfl rfl rfl;·(rintro w' ⟨⟨t0,t1⟩,t2,t3⟩;go_wp2;exact⟨rfl,rfl,rfl⟩)))
    iterate 1 (first | (apply sk rfl rfl;simp only [pt]) | (apply dV rfl rfl rfl;·(rintro w' ⟨⟨t0,t1⟩,t2,t3⟩;go_wp2;exact⟨rfl,rfl,rfl⟩)))
    refine eF ?_;refine aA ?_;go_wp2;go_ret;refine⟨false,rfl,⟨fun h=>(by cases h),fun h=>?_⟩,hb.drew⟩;have h1:=HE.out;rw [h,HD.out]at h1;injection h1 with h1;exact(HX.out (by rw [h1])).elim
  ·have f1:=dR q1
   have HX:=V (show e.pos≠d.pos from q1);clear q1;go_wp2_with fail;refine ea (qW b off b2 LX k e d) (up 0 9 []) (by kernel_rfl) (by kernel_rfl) CC.out ?_;iterate 8 (first | (apply sk rfl rfl;simp only [pt]) | (apply dV rfl rfl rfl;·(rintro w' ⟨⟨t0,t1⟩,t2,t3⟩;go_wp2;exact⟨rfl,rfl,rfl⟩)))
   iterate 1 (first | (apply sk rfl rfl;simp only [pt]) | (apply dV rfl rfl rfl;·(rintro w' ⟨⟨t0,t1⟩,t2,t3⟩;go_wp2;exact⟨rfl,rfl,rfl⟩)))
   refine eF ?_;refine aA ?_;go_wp2;go_ret;refine⟨false,rfl,⟨fun h=>(by cases h),fun h=>?_⟩,hb.drew⟩;have h1:=HE.out;rw [h,HD.out]at h1;injection h1 with h1;exact(HX.out (by rw [h1])).elim
theorem yu (c d:eR) (u x u2 x2:Value) (w:World) (hu:ee 2 fD w u c.locals) (hx:ee 2 kg w x c.labels) (Nz:ee 2 fD w u2 d.locals) (Pn:ee 2 kg w x2 d.labels):
  Calls prog 253 #[.agg #[.int .i64 c.fn, .int .i64 c.pc,u, .int .i64 c.base,x], .agg #[.int .i64 d.fn, .int .i64 d.pc,u2, .int .i64 d.base,x2]] w
   (fun e w'=>∃r:Bool,e= .returned (.bool r)/\(r=true↔c=d)/\Below w.heap.size w w'):=by
 have HU:=V hu;have HV:=V hx;have PE:=V Nz;have Ox:=V Pn;obtain⟨au,LB,rfl,_,_,_⟩:=hu;obtain⟨ax,Mt,rfl,_,_,_⟩:=hx;obtain⟨QO,O3,rfl,_,_,_⟩:=Nz;obtain⟨ax2,O4,rfl,_,_,_⟩:=Pn;have hb:Below w.heap.size w ((w.alloc (.cells #[.int .i64 c.fn, .int .i64 c.pc, .slice au c.locals.length LB, .int .i64 c.base, .slice ax c.labels.length Mt] 124)).alloc (.cells #[.int .i64 d.fn, .int .i64 d.pc, .slice QO d.locals.length O3, .int .i64 d.base, .slice ax2 d.labels.length O4] 124)):=
  ((an w.heap.size w).alloc (ag _) _).alloc (by simp) _
 have MI:eD ((w.alloc (.cells #[.int .i64 c.fn, .int .i64 c.pc, .slice au c.locals.length LB, .int .i64 c.base, .slice ax c.labels.length Mt] 124)).alloc (.cells #[.int .i64 d.fn, .int .i64 d.pc, .slice QO d.locals.length O3, .int .i64 d.base, .slice ax2 d.labels.length O4] 124)) w.heap.size #[.int .i64 c.fn, .int .i64 c.pc, .slice au c.locals.length LB, .int .i64 c.base, .slice ax c.labels.length Mt] 124:=(eD.new w _ _).alloc _;have Nk:eD ((w.alloc (.cells #[.int .i64 c.fn, .int .i64 c.pc, .slice au c.locals.length LB, .int .i64 c.base, .slice ax c.labels.length Mt] 124)).alloc (.cells #[.int .i64 d.fn, .int .i64 d.pc, .slice QO d.locals.length O3, .int .i64 d.base, .slice ax2 d.labels.length O4] 124)) (w.heap.size+1) #[.int .i64 d.fn, .int .i64 d.pc, .slice QO d.locals.length O3, .int .i64 d.base, .slice ax2 d.labels.length O4] 124:=by
  have:=eD.new (w.alloc (.cells #[.int .i64 c.fn, .int .i64 c.pc, .slice au c.locals.length LB, .int .i64 c.base, .slice ax c.labels.length Mt] 124)) #[.int .i64 d.fn, .int .i64 d.pc, .slice QO d.locals.length O3, .int .i64 d.base, .slice ax2 d.labels.length O4] 124;rw [aC]at this;exact this
 go_enter func253,ntmps253;by_cases q1:c.fn=d.fn;rotate_left
 ·have f1:=dR q1
  have HX:=V (show c.fn≠d.fn from q1);clear q1;go_wp2;go_ret;exact⟨false,rfl,⟨fun h=>(by cases h),fun h=>(HX.out (by rw [h])).elim⟩,hb⟩
 have f1:=eI q1;have Q1:=V q1;clear q1;by_cases q2:c.pc=d.pc;rotate_left
 ·have f2:=dR q2
  have HX:=V (show c.pc≠d.pc from q2);clear q2;go_wp2;go_ret;exact⟨false,rfl,⟨fun h=>(by cases h),fun h=>(HX.out (by rw [h])).elim⟩,hb⟩
 have f2:=eI q2;have Q2:=V q2;clear q2;by_cases q3:c.base=d.base;rotate_left
 ·have f3:=dR q3
  have HX:=V (show c.base≠d.base from q3);clear q3;go_wp2;go_ret;exact⟨false,rfl,⟨fun h=>(by cases h),fun h=>(HX.out (by rw [h])).elim⟩,hb⟩
 have f3:=eI q3;have Q3:=V q3;clear q3;go_wp2_with fail;refine(sx _ _ c.locals d.locals _ (HU.out.below (hb.mono (ag _))) (PE.out.below (hb.mono (ag _)))).mono ?_;rintro y w2 ⟨r,rfl,hr,Lw⟩;have NR:=MI.below Lw MI.lt;have hby2:=Nk.below Lw Nk.lt;have LP:=hb.trans (Lw.mono hb.size);have ND:=V hr;obtain⟨x0,x1,x2,x3,x4⟩:=NR.sj;obtain⟨y0,y1,y2,y3,y4⟩:=hby2.sj;clear hr Lw MI Nk hb NR hby2;cases r with
 | false=>
  go_wp2;go_ret;refine⟨false,rfl,⟨fun h=>(by cases h),fun h=>?_⟩,LP⟩;have g:=ND.out.2 (by rw [h]);simp at g
 | true=>
  go_wp2_with fail;refine(xB _ _ c.labels d.labels _ (HV.out.below (LP.mono (ag _))) (Ox.out.below (LP.mono (ag _)))).mono ?_;rintro y w3 ⟨r2,rfl,Of,LZ⟩;have hb'':=LP.trans (LZ.mono LP.size);have O5:=V Of;clear Of LZ LP x0 x1 x2 x3 x4 y0 y1 y2 y3 y4;go_wp2;go_ret;refine⟨r2,rfl,⟨fun h=>?_,fun h=>O5.out.2 (by rw [h])⟩,hb''⟩;have g:=ND.out.1 (by simp);have g':=O5.out.1 h;obtain⟨p0,p1,p2,p3,p4⟩:=c;obtain⟨s0,s1,s2,s3,s4⟩:=d;have g1:=Q1.out;have g2:=Q2.out;have g3:=Q3.out;simp only at g g' g1 g2 g3;rw [g,g',g1,g2,g3]
theorem zm (va vb:Value) (la lb:List eR) (w:World) (ha:fS w va la) (hb:fS w vb lb):
  Calls prog 252 #[va,vb, .func (.func 253) #[] #[]] w (nW la lb w):=by
 have HA:=V ha;have HB:=V hb;obtain⟨a,cap,rfl,h1,h2⟩:=ha.slice;obtain⟨a2,LA,rfl,h3,h4⟩:=hb.slice;clear ha hb;by_cases hlen:la.length=lb.length;rotate_left
 ·have f1:(((la.length:Int)) !=((lb.length:Int)))=true:=fa (by omega)
  have HL:=V hlen;clear hlen;go_enter func252,ntmps252;go_wp2;go_ret;exact⟨false,rfl,⟨fun h=>(by cases h),fun h=>absurd (cU List.length h) HL.out⟩,an _ _⟩
 rw [<- hlen]at h3 HB⊢;have HL:=V hlen;clear hlen;go_enter func252,ntmps252;go_wp2_with fail;refine eC (fun a' w'=>∃(k:Nat),a'=fr (.slice a la.length cap:: .slice a2 la.length LA:: .func (.func 253) #[] #[]::gs a' 3 12 (.slice a la.length cap:: .int .i64 la.length:: .int .i64 k::gs a' 18 14 []))/\AS la lb w w' k) (fun a' _=>(la.length - (intOf (a'.tmps.getD 17 undef)).toNat)) ?_ ?_
 ·exact⟨0,rfl,by omega,rfl,an _ _⟩
 ·skip
  rintro R a' w1 ⟨k,Lv,hJ⟩ HR;dsimp only [fr,gs]at Lv;generalize slot a'=f at Lv;subst Lv;obtain⟨hk,O2,hb⟩:=hJ;have HT:=V O2;clear O2;by_cases Mi:k < la.length;rotate_left
  ·obtain rfl:k=la.length:=by omega
   go_wp2;go_ret;refine⟨true,rfl,⟨fun _=>?_,fun _=>rfl⟩,hb⟩;have:=HT.out;rw [aU,HL.out,aU]at this;exact this
  obtain⟨c,he⟩:∃e,la[k]?=some e:=⟨_,aq Mi⟩;obtain⟨d,hd⟩:∃d,lb[k]?=some d:=⟨_,aq (by have:=HL.out;omega)⟩;obtain⟨b,off,u,x,rfl,LD,⟨c0,c1,c2,c3,c4⟩,hu,hx,-⟩:=(HA.out.below (hb.mono (ag _))).get he;obtain⟨b2,LX,u2,x2,rfl,Nf,⟨d0,d1,d2,d3,d4⟩,Nz,Pn,-⟩:=(HB.out.below (hb.mono (ag _))).get hd;have HU:=V hu;have HV:=V hx;have PE:=V Nz;have Ox:=V Pn;obtain⟨au,LB,rfl,_,_,_⟩:=hu;obtain⟨ax,Mt,rfl,_,_,_⟩:=hx;obtain⟨QO,O3,rfl,_,_,_⟩:=Nz;obtain⟨ax2,O4,rfl,_,_,_⟩:=Pn;have HE:=V he;have HD:=V hd;clear he hd;have NF:Below w1.heap.size w1 (w1.alloc (.cells #[.int .i64 c.fn, .int .i64 c.pc, .slice au c.locals.length LB, .int .i64 c.base, .slice ax c.labels.length Mt] 124)):=(an w1.heap.size w1).alloc (ag _) _;have M8:Below w1.heap.size w1 ((w1.alloc (.cells #[.int .i64 c.fn, .int .i64 c.pc, .slice au c.locals.length LB, .int .i64 c.base, .slice ax c.labels.length Mt] 124)).alloc (.cells #[.int .i64 d.fn, .int .i64 d.pc, .slice QO d.locals.length O3, .int .i64 d.base, .slice ax2 d.labels.length O4] 124)):=NF.alloc (by simp) _;have e0:=(NF.cell (p:=⟨b2,LX+k*5,none⟩) Nf).trans d0;have e1:=(NF.cell (p:=⟨b2,LX+k*5+1,none⟩) Nf).trans d1;have e2:=(NF.cell (p:=⟨b2,LX+k*5+2,none⟩) Nf).trans d2;have e3:=(NF.cell (p:=⟨b2,LX+k*5+3,none⟩) Nf).trans d3;have e4:=(NF.cell (p:=⟨b2,LX+k*5+4,none⟩) Nf).trans d4;go_wp2_with fail;refine(yu c d _ _ _ _ _ (HU.out.below M8) (HV.out.below M8) (PE.out.below M8) (Ox.out.below M8)).mono ?_;rintro y w2 ⟨r,rfl,hr,Lw⟩;replace hb:=hb.trans ((M8.trans (Lw.mono M8.size)).mono hb.size);clear Lw M8 NF c0 c1 c2 c3 c4 d0 d1 d2 d3 d4 e0 e1 e2 e3 e4;have ND:=V hr;clear hr;cases r with
  | false=>
   go_wp2;go_ret;refine⟨false,rfl,⟨fun h=>(by cases h),fun h=>?_⟩,hb⟩;have h1:=HE.out;rw [h,HD.out]at h1;injection h1 with h1;exact ND.out.2 h1.symm
  | true=>
   go_wp2;refine HR.out _ _ ⟨k+1,rfl,by omega,?_,hb⟩ ?_
   ·rw [aR,aR,HT.out,HE.out,HD.out,ND.out.1 (by simp)]
   ·simp [intOf]
    omega
theorem sr (uv uf uv2 uf2:Value) (s t:fy) (w:World) (hs:jl w uv uf s) (ht:jl w uv2 uf2 t):
  Calls prog 140 #[.agg #[uv,uf, .int .i64 s.asks], .agg #[uv2,uf2, .int .i64 t.asks]] w
   (fun e w'=>∃r:Bool,e= .returned (.bool r)/\(r=true↔s=t)/\Below w.heap.size w w'):=by
 obtain⟨hv,hf,-⟩:=hs;obtain⟨MS,hf2,-⟩:=ht;have HV:=V hv;have HF:=V hf;have Ox:=V MS;have HF2:=V hf2;obtain⟨av,LU,rfl,_,_,_⟩:=hv;obtain⟨af,MY,rfl,_,_⟩:=hf.slice;obtain⟨QP,Ol,rfl,_,_,_⟩:=MS;obtain⟨af2,Om,rfl,_,_⟩:=hf2.slice;clear hf hf2;have hb:Below w.heap.size w ((w.alloc (.cells #[.slice av s.dX.length LU, .slice af s.eg.length MY, .int .i64 s.asks] 60)).alloc (.cells #[.slice QP t.dX.length Ol, .slice af2 t.eg.length Om, .int .i64 t.asks] 60)):=
  ((an w.heap.size w).alloc (ag _) _).alloc (by simp) _
 have MI:eD ((w.alloc (.cells #[.slice av s.dX.length LU, .slice af s.eg.length MY, .int .i64 s.asks] 60)).alloc (.cells #[.slice QP t.dX.length Ol, .slice af2 t.eg.length Om, .int .i64 t.asks] 60)) w.heap.size #[.slice av s.dX.length LU, .slice af s.eg.length MY, .int .i64 s.asks] 60:=(eD.new w _ _).alloc _;have Nk:eD ((w.alloc (.cells #[.slice av s.dX.length LU, .slice af s.eg.length MY, .int .i64 s.asks] 60)).alloc (.cells #[.slice QP t.dX.length Ol, .slice af2 t.eg.length Om, .int .i64 t.asks] 60)) (w.heap.size+1) #[.slice QP t.dX.length Ol, .slice af2 t.eg.length Om, .int .i64 t.asks] 60:=by
  have:=eD.new (w.alloc (.cells #[.slice av s.dX.length LU, .slice af s.eg.length MY, .int .i64 s.asks] 60)) #[.slice QP t.dX.length Ol, .slice af2 t.eg.length Om, .int .i64 t.asks] 60;rw [aC]at this;exact this
 go_enter func140,ntmps140;by_cases q1:s.asks=t.asks;rotate_left
 ·have f1:=dR q1
  have HX:=V (show s.asks≠t.asks from q1);clear q1;go_wp2;go_ret;exact⟨false,rfl,⟨fun h=>(by cases h),fun h=>(HX.out (by rw [h])).elim⟩,hb⟩
 have f1:=eI q1;have Q1:=V q1;clear q1;go_wp2_with fail;refine(sx _ _ s.dX t.dX _ (HV.out.below (hb.mono (ag _))) (Ox.out.below (hb.mono (ag _)))).mono ?_;rintro y w2 ⟨r,rfl,hr,Lw⟩;have NR:=MI.below Lw MI.lt;have hby2:=Nk.below Lw Nk.lt;have LP:=hb.trans (Lw.mono hb.size);have ND:=V hr;obtain⟨x0,x1,x2⟩:=NR.three;obtain⟨y0,y1,y2⟩:=hby2.three;clear hr Lw MI Nk hb NR hby2;cases r with
 | false=>
  go_wp2;go_ret;refine⟨false,rfl,⟨fun h=>(by cases h),fun h=>?_⟩,LP⟩;have g:=ND.out.2 (by rw [h]);simp at g
 | true=>
  go_wp2_with fail;refine(zm _ _ s.eg t.eg _ (HF.out.below (LP.mono (ag _))) (HF2.out.below (LP.mono (ag _)))).mono ?_;rintro y w3 ⟨r2,rfl,Of,LZ⟩;have hb'':=LP.trans (LZ.mono LP.size);have O5:=V Of;clear Of LZ LP x0 x1 x2 y0 y1 y2;go_wp2;go_ret;refine⟨r2,rfl,⟨fun h=>?_,fun h=>O5.out.2 (by rw [h])⟩,hb''⟩;have g:=ND.out.1 (by simp);have g':=O5.out.1 h;obtain⟨p0,p1,p2⟩:=s;obtain⟨s0,s1,s2⟩:=t;have g1:=Q1.out;simp only at g g' g1;rw [g,g',g1]
def Ia (s:fy) (w:World) (e:Ending) (w':World):Prop:=
 ∃v,e= .returned v/\Below w.heap.size w w'/\((s.may/\ed w' w.heap.size v (iG s))\/(¬ s.may/\v= .slice none 0 0))
def tE (s:fy):List UInt8:=jx s.dX++eO (s.asks+1).toNat++eO s.eg.length
def KF (s:fy) (w w':World) (v:Value) (k:Nat):Prop:=
 k <=s.eg.length/\ed w' (w.heap.size+1) v (tE s++gY (s.eg.take k))/\Below w.heap.size w w'
def Kp (L:List UInt8) (labs:List kN) (w w':World) (v:Value) (m:Nat):Prop:=
 m <=labs.length/\ed w' (w.heap.size+1) v (L++((labs.take m).map pk).flatten)/\Below w.heap.size w w'
theorem F1 {α:Type} {k:Nat} {enc:α ->List Value} {w:World} {a:Option Addr} {n cap:Nat} {l:List α} (h:ee k enc w (.slice a n cap) l):l≠[] ->∀ad,a=some ad ->ad.block < w.heap.size:=by
 obtain⟨a',LQ,hv,_,_,hc⟩:=h;injection hv with e1 e2 e3;subst e1;intro MO ad ha;obtain⟨x,xs,hxs⟩:=List.exists_cons_of_ne_nil MO;obtain⟨b1,off1,g1,g2,_⟩:=hc 0 x (by rw [hxs];rfl);rw [ha]at g1;injection g1 with g1;rw [g1];exact g2
theorem me (uv uf:Value) (s:fy) (w:World) (LS:jl w uv uf s):
  Calls prog 138 #[.agg #[uv,uf, .int .i64 s.asks]] w (Ia s w):=by
 have HS:=V LS;obtain⟨hv,hf,⟨o1,o2⟩,Rs,P8⟩:=id LS;obtain⟨av,LU,rfl,_,M6,_⟩:=id hv;obtain⟨af,MY,rfl,_,P7⟩:=hf.slice;unfold maxLen at M6;have HV:=V hv;have HF:=V hf;have HOV:=V Rs;have PS:=V P8;clear hv hf Rs P8;have LR:Below w.heap.size w (w.alloc (.cells #[.slice av s.dX.length LU, .slice af s.eg.length MY, .int .i64 s.asks] 60)):=(an _ _).alloc (ag _) _;have hbx0:=eD.new w #[.slice av s.dX.length LU, .slice af s.eg.length MY, .int .i64 s.asks] 60;go_enter func138,ntmps138;go_wp2_with fail;refine(od _ _ s _ (LS.below (LR.mono (ag _)))).mono ?_;rintro x w1 ⟨rfl,hbm⟩;have hbx1:=hbx0.below hbm (by simp);have LG:=LR.trans (hbm.mono LR.size);have QQ:=hbm.size;simp only [aC]at QQ;clear hbm hbx0 LR LS;by_cases hm:s.may;rotate_left
 ·have hr:decide s.may=false:=aw hm
  rw [hr];have HM:=V hm;clear hm hr;go_wp2;go_ret;exact⟨_,rfl,LG, .inr ⟨HM.out,rfl⟩⟩
 have hr:decide s.may=true:=ay hm;rw [hr];have HM:=V hm;obtain⟨m1,m2,m3,m4,-,-⟩:=hm;clear hr;obtain⟨n0,OW⟩:∃n:Nat,s.asks+1=n:=⟨(s.asks+1).toNat,by omega⟩;have hn1:n0 <=10001:=by omega
 have HN:=V OW;obtain⟨x0,x1,x2⟩:=hbx1.three;clear OW;have hq:∀i,(⟨i,0,none⟩:Addr)=⟨i,0,none⟩:=fun _=>rfl;clear hq;have f0:s.asks+1=(n0:Int):=HN.out;go_wp2_with fail;refine ea (fun w'=>w'.cell? ⟨w.heap.size,0,none⟩=some (.slice av s.dX.length LU)/\w'.cell? ⟨w.heap.size,1,none⟩=some (.slice af s.eg.length MY)/\w'.cell? ⟨w.heap.size,2,none⟩=some (.int .i64 s.asks))
  ((0,true)::(1,true)::up 3 3 (up 7 3 ((2,false)::(6,false)::(10,false)::(11,true)::[]))) (by kernel_rfl) (by kernel_rfl) ⟨x0,x1,x2⟩ ?_
 clear x0 x1 x2;iterate 8 (first | (apply sk rfl rfl;simp only [pt]) | (apply dV rfl rfl rfl;·(rintro w' ⟨t0,t1,t2⟩;go_wp2;exact⟨rfl,rfl,rfl⟩)))
 refine dZ rfl rfl ?_;go_wp2_with fail;have hnx1:¬ ez (.slice none 0 0) w.heap.size:=by simp [ez,Value.ownBlock]
 refine(sz (.slice none 0 0) [] _ s.dX (w.heap.size+1) w1.drew (ed.nil _ _) (by simp) (by simp;omega) (HV.out.below (LG.drew.mono (ag _))) HM.out.2.2.2.2.1 HOV.out (by omega) (fun _ i hi=>by simp [ez,Value.ownBlock]at hi)).mono ?_;rintro x w2 ⟨v2,rfl,L4,LH,LL⟩;have NR:=hbx1.drew.keeps LH hnx1;have hnx2:¬ ez v2 w.heap.size:=fun h=>by have:=(ey L4 h).1;omega
 have Lw:Below w.heap.size w w2:=LG.drew.trans (LH.below LG.size (fun i hi=>by simp [ez,Value.ownBlock]at hi));rw [cg]at L4;clear LH LL hbx1;have hl2:(jx s.dX).length <=21000:=by
  have g1:=nE s.dX HOV.out;have g2:=(eL s.dX.length).2;simp only [jx,ah];omega
 have OB:=NR.lt;go_wp2_with fail;refine⟨NR.three,?_⟩;refine dZ rfl rfl ?_;go_wp2_with fail;refine(lA v2 _ n0 (by omega) (w.heap.size+1) w2 L4 (by omega) (by omega)).mono ?_;rintro x w3 ⟨v3,rfl,Nl,Mz,N4⟩;have Qj:=NR.keeps Mz hnx2;have hnx3:¬ ez v3 w.heap.size:=fun h=>(N4 _ h).elim hnx2 (fun g=>by have:=NR.lt;(try simp at g this);omega);have LZ:Below w.heap.size w w3:=Lw.trans (Mz.below Lw.size (fun i hi=>by have:=(ey L4 hi).1;omega));clear Mz N4;have hl3:=(eL n0).2;have OC:=Qj.lt;go_wp2_with fail;refine⟨Qj.three,?_⟩;refine dZ rfl rfl ?_;go_wp2_with fail;refine(lA v3 _ s.eg.length (by omega) (w.heap.size+1) w3 Nl (by simp only [ah];omega) (by omega)).mono ?_;rintro x w4 ⟨v4,rfl,MW,OQ,Nb⟩;have PT:=Qj.keeps OQ hnx3;have hnx4:¬ ez v4 w.heap.size:=fun h=>(Nb _ h).elim hnx3 (fun g=>by have:=Qj.lt;(try simp at g this);omega);have MN:Below w.heap.size w w4:=LZ.trans (OQ.below LZ.size (fun i hi=>by have:=(ey Nl hi).1;omega));clear OQ Nb;have hl4:=(eL s.eg.length).2;go_wp2_with fail;refine⟨PT.three,?_⟩;iterate 1 (first | (apply sk rfl rfl;simp only [pt]) | (apply dV rfl rfl rfl;·(rintro w' ⟨t0,t1,t2⟩;go_wp2;exact⟨rfl,rfl,rfl⟩)))
 refine eF ?_;refine aA ?_;obtain⟨x0,x1,x2⟩:=PT.three;have hhead:jx s.dX++eO n0++eO s.eg.length=tE s:=by rw [tE,f0];rfl
 have hlh:(tE s).length <=21020:=by rw [<- hhead];simp only [ah];omega
 rw [hhead]at MW;clear hhead NR Qj PT hnx1 hnx2 hnx3 hnx4 L4 Nl Lw LZ hl2 hl3 hl4 f0;go_wp2_with fail;clear x0 x1 x2;refine eC (fun a' w'=>∃(v:Value) (k:Nat),a'=fr (gs a' 0 3 (v::gs a' 4 19 (.slice af s.eg.length MY:: .int .i64 s.eg.length:: .int .i64 k::gs a' 26 38 [])))/\KF s w w' v k) (fun a' _=>(s.eg.length - (intOf (a'.tmps.getD 25 undef)).toNat)) ?_ ?_
 ·exact⟨v4,0,rfl,by omega,by simpa [gY] using MW,MN⟩
 clear MW MN LG QQ OB OC;rintro R a' w5 ⟨v,k,Lv,hJ⟩ HR;dsimp only [fr,gs]at Lv;generalize slot a'=f at Lv;subst Lv;obtain⟨hk,ho,hb⟩:=hJ;by_cases Mi:k < s.eg.length;rotate_left
 ·obtain rfl:k=s.eg.length:=by omega
  go_wp2;go_ret;refine⟨v,rfl,hb, .inl ⟨HM.out,?_⟩⟩;rw [aU]at ho;have:=my (base':=w.heap.size) ho (fun i hi=>by have:=(ey ho hi).1;omega);rw [iG];exact this
 obtain⟨g,he⟩:∃e,s.eg[k]?=some e:=⟨_,aq Mi⟩;obtain⟨b,off,u,x,rfl,LD,⟨d0,d1,d2,d3,d4⟩,hu,hx,LF⟩:=HF.out.get he;have c0:w5.cell? ⟨b,off+k*5,none⟩=some (.int .i64 g.fn):=by rw [hb.cell LD];exact d0
 have c1:w5.cell? ⟨b,off+k*5+1,none⟩=some (.int .i64 g.pc):=by rw [hb.cell LD];exact d1
 have c2:w5.cell? ⟨b,off+k*5+2,none⟩=some u:=by rw [hb.cell LD];exact d2
 have c3:w5.cell? ⟨b,off+k*5+3,none⟩=some (.int .i64 g.base):=by rw [hb.cell LD];exact d3
 have c4:w5.cell? ⟨b,off+k*5+4,none⟩=some x:=by rw [hb.cell LD];exact d4
 have HU:=V hu;have HX:=V hx;obtain⟨au,LB,rfl,_,hcu,_⟩:=id hu;obtain⟨ax,Mt,rfl,hcx1,hcx,_⟩:=id hx;unfold maxLen at hcu hcx;have HUB:=V (F1 hu);obtain⟨p1,p2,p3,p4,⟨p5,p6⟩,⟨p7,p8⟩,p9,p10⟩:=HM.out.2.2.2.2.2 g (aN he);have HP1:=V p1;have HP4:=V p4;have HOL:=V LF.2.2.2.1;obtain⟨nf,hnf⟩:∃n:Nat,g.fn=n:=⟨g.fn.toNat,by omega⟩;obtain⟨np,hnp⟩:∃n:Nat,g.pc=n:=⟨g.pc.toNat,by omega⟩;obtain⟨nb,hnb⟩:∃n:Nat,g.base=n:=⟨g.base.toNat,by omega⟩;have HFB:=V (show nZ g=jx g.locals++eO nf++eO np++eO nb++(eO g.labels.length++(g.labels.map pk).flatten)by rw [nZ,CT,hnf,hnp,hnb];rfl);have hlen:(tE s++gY (s.eg.take k)).length <=75000:=by
  have g2:=po (s.eg.take k) (fun y hy=>⟨HM.out.2.2.2.2.2 y (cC hy),PS.out y (cC hy)⟩);have g3:(s.eg.take k).length <=32:=by rw [aP];omega
  rw [ah];omega
 have HE:=V he;rw [hnf]at c0 p5 p6;rw [hnp]at c1 p7 p8;rw [hnb]at c3 p9 p10;generalize hL:tE s++gY (s.eg.take k)=L at ho hlen;have HL:=V hL;have Ob:=(eD.new w5 #[.int .i64 nf, .int .i64 np, .slice au g.locals.length LB, .int .i64 nb, .slice ax g.labels.length Mt] 124).drew;have PU:¬ ez v w5.heap.size:=fun h=>by have:=(ey ho h).2;omega
 have hoa:=ho.keeps (((dU.refl (fun _=>False) w5).alloc (.cells #[.int .i64 nf, .int .i64 np, .slice au g.locals.length LB, .int .i64 nb, .slice ax g.labels.length Mt] 124)).drew) (fun _ _ h=>h);have NF:=(hb.alloc hb.size (.cells #[.int .i64 nf, .int .i64 np, .slice au g.locals.length LB, .int .i64 nb, .slice ax g.labels.length Mt] 124)).drew;have hba1:w.heap.size+1 <=w5.heap.size+1:=by have:=hb.size;omega
 clear hL d0 d1 d2 d3 d4 he LF p1 p4 hnf hnp hnb hu hx ho hb;have HRO:=HR;clear HR;go_wp2_with fail;refine ea (fun w'=>w'.cell? ⟨w5.heap.size,0,none⟩=some (.int .i64 nf)/\w'.cell? ⟨w5.heap.size,1,none⟩=some (.int .i64 np)/\w'.cell? ⟨w5.heap.size,2,none⟩=some (.slice au g.locals.length LB)/\w'.cell? ⟨w5.heap.size,3,none⟩=some (.int .i64 nb)/\w'.cell? ⟨w5.heap.size,4,none⟩=some (.slice ax g.labels.length Mt))
  (up 0 3 ((4,true)::(5,true)::(7,true)::(8,true)::(10,true)::(11,true)::(3,false)::(6,false)::(9,false)::(12,false)::(13,true)::[])) (by kernel_rfl) (by kernel_rfl) Ob.sj ?_
 clear c0 c1 c2 c3 c4;obtain⟨Y,hY⟩:∃Y,Y=w5.heap.size:=⟨_,rfl⟩;rw [<- hY]at Ob PU hba1⊢;clear hY;generalize(w5.alloc (.cells #[.int .i64 nf, .int .i64 np, .slice au g.locals.length LB, .int .i64 nb, .slice ax g.labels.length Mt] 124)).drew=wa at Ob hoa NF⊢;obtain⟨va,hva⟩:∃va,va=v:=⟨_,rfl⟩;have hszY:=Ob.lt;iterate 9 (first | (apply sk rfl rfl;simp only [pt]) | (apply dV rfl rfl rfl;·(rintro w' ⟨t0,t1,t2,t3,t4⟩;go_wp2;exact⟨rfl,rfl,rfl⟩)))
 refine dZ rfl rfl ?_;go_wp2_with fail;subst hva;refine(sz va L _ g.locals (w.heap.size+1) wa hoa (by omega) (by omega) (HU.out.below (NF.mono (ag _))) HP4.out HOL.out (by omega) (fun MO i hi a n cp he=>by
  injection he with e1 e2 e3;have:=HUB.out MO a e1;have:=(ey hoa hi).1;omega)).mono ?_
 rintro x wb ⟨vb,rfl,hob,hkb,hsb⟩;have OR:=Ob.keeps hkb PU;have QR:¬ ez vb Y:=fun h=>(hsb _ h).elim PU (fun q=>by omega);have M8:Below w.heap.size w wb:=NF.trans (hkb.below NF.size (fun i hi=>by have:=(ey hoa hi).1;omega));clear hkb hsb;have hlb:(L++jx g.locals).length <=76000:=by
  have g1:=nE g.locals HOL.out;have g2:=(eL g.locals.length).2;simp only [jx,ah];omega
 have hszb:=OR.lt;go_wp2_with fail;refine⟨OR.sj,?_⟩;refine dZ rfl rfl ?_;go_wp2_with fail;refine(lA vb _ nf (by omega) (w.heap.size+1) wb hob (by omega) (by omega)).mono ?_;rintro x wc ⟨vc,rfl,hoc,hkc,hsc⟩;have Qm:=OR.keeps hkc QR;have hnxc:¬ ez vc Y:=fun h=>(hsc _ h).elim QR (fun g=>by have:=OR.lt;(try simp at g this);omega);have hbc:Below w.heap.size w wc:=M8.trans (hkc.below M8.size (fun i hi=>by have:=(ey hob hi).1;omega));clear hkc hsc;have hlc:=(eL nf).2;have hszc:=Qm.lt;go_wp2_with fail;refine⟨Qm.sj,?_⟩;refine dZ rfl rfl ?_;go_wp2_with fail;refine(lA vc _ np (by omega) (w.heap.size+1) wc hoc (by simp only [ah]at*;omega) (by omega)).mono ?_;rintro x wd ⟨vd,rfl,hod,QF,hsd⟩;have hbxd:=Qm.keeps QF hnxc;have hnxd:¬ ez vd Y:=fun h=>(hsd _ h).elim hnxc (fun g=>by have:=Qm.lt;(try simp at g this);omega);have NN:Below w.heap.size w wd:=hbc.trans (QF.below hbc.size (fun i hi=>by have:=(ey hoc hi).1;omega));clear QF hsd;have hld:=(eL np).2;have hszd:=hbxd.lt;go_wp2_with fail;refine⟨hbxd.sj,?_⟩;refine dZ rfl rfl ?_;go_wp2_with fail;refine(lA vd _ nb (by omega) (w.heap.size+1) wd hod (by simp only [ah]at*;omega) (by omega)).mono ?_;rintro x we ⟨ve,rfl,hoe,hke,hse⟩;have hbxe:=hbxd.keeps hke hnxd;have hnxe:¬ ez ve Y:=fun h=>(hse _ h).elim hnxd (fun g=>by have:=hbxd.lt;(try simp at g this);omega);have PF:Below w.heap.size w we:=NN.trans (hke.below NN.size (fun i hi=>by have:=(ey hod hi).1;omega));clear hke hse;have hle:=(eL nb).2;have hsze:=hbxe.lt;go_wp2_with fail;refine⟨hbxe.sj,?_⟩;iterate 1 (first | (apply sk rfl rfl;simp only [pt]) | (apply dV rfl rfl rfl;·(rintro w' ⟨t0,t1,t2,t3,t4⟩;go_wp2;exact⟨rfl,rfl,rfl⟩)))
 refine eF ?_;refine aA ?_;have hl5:(L++jx g.locals++eO nf++eO np++eO nb).length <=77000:=by simp only [ah]at*;omega
 clear Ob OR Qm hbxd PU QR hnxc hnxd hoa hob hoc hod NF M8 hbc NN hlb hlc hld hle;obtain⟨x0,x1,x2,x3,x4⟩:=hbxe.sj;go_wp2_with fail;refine(lA ve _ g.labels.length (by omega) (w.heap.size+1) we hoe (by omega) (by omega)).mono ?_;rintro x wh ⟨vh,rfl,hoh,hkh,hsh⟩;have hbxh:=hbxe.keeps hkh hnxe;have hnxh:¬ ez vh Y:=fun h=>(hsh _ h).elim hnxe (fun g=>by have:=hbxe.lt;(try simp at g this);omega);have hbh:Below w.heap.size w wh:=PF.trans (hkh.below PF.size (fun i hi=>by have:=(ey hoe hi).1;omega));clear hkh hsh;have hlh2:=(eL g.labels.length).2;have hl6:(L++jx g.locals++eO nf++eO np++eO nb++eO g.labels.length).length <=77100:=by rw [ah];omega
 clear x0 x1 x2 x3 x4;obtain⟨x0,x1,x2,x3,x4⟩:=hbxh.sj;have hL2:tE s++gY (s.eg.take (k+1))=L++jx g.locals++eO nf++eO np++eO nb++eO g.labels.length++(g.labels.map pk).flatten:=by
  rw [aR,HE.out,zP, <- aK,HL.out];simp [gY,HFB.out]
 have QG:=V hL2;clear hL2 hl5 PF hoe hbxe hnxe hnxh;generalize L++jx g.locals++eO nf++eO np++eO nb++eO g.labels.length=L2 at QG hoh hl6;go_wp2_with fail;clear x0 x1 x2 x3 x4 hbxh;refine eC (fun a' w'=>∃(v:Value) (m:Nat),a'=fr (gs a' 0 3 (v::gs a' 4 19 (.slice (some ⟨b,off,none⟩) s.eg.length MY:: .int .i64 s.eg.length:: .int .i64 k::gs a' 26 22 (.slice ax g.labels.length Mt:: .int .i64 g.labels.length:: .int .i64 m::gs a' 51 13 []))))/\Kp L2 g.labels w w' v m) (fun a' _=>(g.labels.length - (intOf (a'.tmps.getD 50 undef)).toNat)) ?_ ?_
 ·exact⟨vh,0,rfl,by omega,by simpa using hoh,hbh⟩
 clear hoh hbh hszY hszb hszc hszd hsze hba1;rintro R a' w5 ⟨v,m,Lv,hJ⟩ HR;dsimp only [fr,gs]at Lv;generalize slot a'=f at Lv;subst Lv;obtain⟨hm,ho,hb⟩:=hJ;by_cases hml:m < g.labels.length;rotate_left
 ·obtain rfl:m=g.labels.length:=by omega
  go_wp2_with fail;refine HRO.out _ _ ⟨v,k+1,rfl,by omega,?_,hb⟩ ?_
  ·rw [QG.out]
   rw [aU]at ho;exact ho
  ·simp [intOf]
   omega
 obtain⟨e,hee⟩:∃e,g.labels[m]?=some e:=⟨_,aq hml⟩;obtain⟨a',LQ,hva,_,_,Lt⟩:=HX.out.below (hb.mono (ag _));injection hva with e1 e2 e3;subst e1 e3;obtain⟨bl,offl,rfl,hltl,QE⟩:=Lt m e hee;have y0:=QE 0 _ rfl;have y1:=QE 1 _ rfl;rw [aI]at y0;obtain⟨⟨r1,r2⟩,r3,r4⟩:=HP1.out e (aN hee);obtain⟨na,hna⟩:∃n:Nat,e.pos=n:=⟨e.pos.toNat,by omega⟩;obtain⟨nh,hnh⟩:∃n:Nat,e.eJ=n:=⟨e.eJ.toNat,by omega⟩;have HLB:=V (show pk e=eO na++eO nh by rw [pk,hna,hnh];rfl);rw [hna]at y0 r1 r2;rw [hnh]at y1 r3 r4;have hlen2:(L2++((g.labels.take m).map pk).flatten).length <=78000:=by
  have q1:=tq (g.labels.take m);have q2:(g.labels.take m).length <=40:=by rw [aP];omega
  rw [ah];omega
 have HEE:=V hee;generalize hL3:L2++((g.labels.take m).map pk).flatten=L3 at ho hlen2;have HL3:=V hL3;have Ob:=(eD.new w5 #[.int .i64 na, .int .i64 nh] 144).drew;have PU:¬ ez v w5.heap.size:=fun h=>by have:=(ey ho h).2;omega
 have hoa:=ho.keeps (((dU.refl (fun _=>False) w5).alloc (.cells #[.int .i64 na, .int .i64 nh] 144)).drew) (fun _ _ h=>h);have NF:=(hb.alloc hb.size (.cells #[.int .i64 na, .int .i64 nh] 144)).drew;have hba1:w.heap.size+1 <=w5.heap.size+1:=by have:=hb.size;omega
 clear hL3 Lt QE e2 hee hna hnh ho hb;go_wp2_with fail;refine ea (fun w'=>w'.cell? ⟨w5.heap.size,0,none⟩=some (.int .i64 na)/\w'.cell? ⟨w5.heap.size,1,none⟩=some (.int .i64 nh)) (up 0 3 ((4,true)::(5,true)::(3,false)::(6,false)::(7,true)::[])) (by kernel_rfl) (by kernel_rfl) ⟨Ob.cell 0,Ob.cell 1⟩ ?_;clear y0 y1;obtain⟨Z,hZ⟩:∃Z,Z=w5.heap.size:=⟨_,rfl⟩;rw [<- hZ]at Ob PU hba1⊢;clear hZ;generalize(w5.alloc (.cells #[.int .i64 na, .int .i64 nh] 144)).drew=wa at Ob hoa NF⊢;have hszZ:=Ob.lt;iterate 5 (first | (apply sk rfl rfl;simp only [pt]) | (apply dV rfl rfl rfl;·(rintro w' ⟨t0,t1⟩;go_wp2;exact⟨rfl,rfl,rfl⟩)))
 refine dZ rfl rfl ?_;go_wp2_with fail;refine(lA v _ na (by omega) (w.heap.size+1) wa hoa (by omega) (by omega)).mono ?_;rintro x wb ⟨vb,rfl,hob,hkb,hsb⟩;have OR:=Ob.keeps hkb PU;have QR:¬ ez vb Z:=fun h=>(hsb _ h).elim PU (fun g=>by have:=Ob.lt;(try simp at g this);omega);have M8:Below w.heap.size w wb:=NF.trans (hkb.below NF.size (fun i hi=>by have:=(ey hoa hi).1;omega));clear hkb hsb;have hlb:=(eL na).2;have hszb:=OR.lt;go_wp2_with fail;refine⟨⟨OR.cell 0,OR.cell 1⟩,?_⟩;refine dZ rfl rfl ?_;go_wp2_with fail;refine(lA vb _ nh (by omega) (w.heap.size+1) wb hob (by simp only [ah]at*;omega) (by omega)).mono ?_;rintro x wc ⟨vc,rfl,hoc,hkc,hsc⟩;have Qm:=OR.keeps hkc QR;have hnxc:¬ ez vc Z:=fun h=>(hsc _ h).elim QR (fun g=>by have:=OR.lt;(try simp at g this);omega);have hbc:Below w.heap.size w wc:=M8.trans (hkc.below M8.size (fun i hi=>by have:=(ey hob hi).1;omega));clear hkc hsc;clear Ob OR PU QR hoa hob NF M8;go_wp2_with fail;refine⟨⟨Qm.cell 0,Qm.cell 1⟩,?_⟩;iterate 1 (first | (apply sk rfl rfl;simp only [pt]) | (apply dV rfl rfl rfl;·(rintro w' ⟨t0,t1⟩;go_wp2;exact⟨rfl,rfl,rfl⟩)))
 refine eF ?_;refine aA ?_;go_wp2;refine HR.out _ _ ⟨vc,m+1,rfl,by omega,?_,hbc⟩ ?_
 ·have e1:L2++((g.labels.take (m+1)).map pk).flatten=L3++eO na++eO nh:=by
   rw [<- HL3.out,aR,HEE.out];simp [HLB.out]
  rw [e1];exact hoc
 ·simp [intOf]
  omega

section
inductive Ord where
 | nil:Ord
 | cons (i:Nat) (b:Bool) (rest:Ord):Ord
 | fork (i j:Nat) (ri rj:Ord):Ord
def Ord.depth:Ord ->Nat
 | .nil=>0
 | .cons _ _ r=>r.depth+1
 | .fork _ _ a b=>max a.depth b.depth+1
def ord:List (Nat × Bool) ->Ord ->Ord
 | [],r=>r
 | (i,b)::l,r=> .cons i b (ord l r)
def kj (P:Program) (ops:List Oper) (Q:Exit ->Act ->World ->Prop) (S:World ->Prop):Ord ->Act ->World ->Prop
 | .nil,a,w=>Q .normal a w
 | Ord.cons i true rest,a,w=>∃o,nth ops i=some o/\
   ((kM ops o.guard a=true/\∃d,o.dst=some d/\d < a.tmps.size/\∃a',(∀w',S w' ->wpList P #[] (C4 a' w') [bare o] a w')/\kj P ops Q S rest a' w)\/
    (kM ops o.guard a=false/\kj P ops Q S rest (a.put o.dst undef) w))
 | Ord.cons i false rest,a,w=>∃o,nth ops i=some o/\
   ((kM ops o.guard a=true/\wpList P #[] (nT Q S (kj P ops Q S rest)) [bare o] a w)\/
    (kM ops o.guard a=false/\kj P ops Q S rest (a.put o.dst undef) w))
 | .fork i j ri rj,a,w=>(∃o,nth ops i=some o/\
   ((kM ops o.guard a=true/\wpList P #[] (nT Q S (kj P ops Q S ri)) [bare o] a w)\/
    (kM ops o.guard a=false/\kj P ops Q S ri (a.put o.dst undef) w)))/\(∃o,nth ops j=some o/\
   ((kM ops o.guard a=true/\wpList P #[] (nT Q S (kj P ops Q S rj)) [bare o] a w)\/
    (kM ops o.guard a=false/\kj P ops Q S rj (a.put o.dst undef) w)))
def qi (ops:Array Oper):Ord ->Array Bool ->Bool
 | .nil,listed=>(Region.ready .any ops listed).isEmpty
 | Ord.cons i true rest,listed=>(ops[i]?.any fun o=>isVal o.op)&&(Region.ready .any ops listed).contains i&&Region.free .any ops listed i&&qi ops rest (listed.setIfInBounds i true)
 | Ord.cons i false rest,listed=>(Region.ready .any ops listed==[i])&&qi ops rest (listed.setIfInBounds i true)
 | .fork i j ri rj,listed=>(Region.ready .any ops listed==[i,j])&&qi ops ri (listed.setIfInBounds i true)&&qi ops rj (listed.setIfInBounds j true)
theorem mK {P:Program} {ops:Array Oper} {Q:Exit ->Act ->World ->Prop} {S:World ->Prop} {j:Nat} {K K':Act ->World ->Prop} {a:Act} {w:World} (hS:S w) (hK:∀a w,S w ->K a w ->K' a w)
  (h:∃o,nth ops.toList j=some o/\((kM ops.toList o.guard a=true/\wpList P #[] (nT Q S K) [bare o] a w)\/(kM ops.toList o.guard a=false/\K (a.put o.dst undef) w))):
  wpOp P ops Q j (fun a' w'=>S w'/\K' a' w') a w:=by
 obtain⟨o,ho,h⟩:=h;rw [nU,cA]at ho;unfold wpOp;simp only [ho];rw [mf];rcases h with⟨hg,hw⟩ | ⟨hg,hk⟩
 ·rw [aD hg]
  have MH:∀a' w',nT Q S K .normal a' w' ->S w'/\K' a' w':=fun a' w' h=>⟨h.1,hK _ _ h.1 h.2⟩;have OI:LetsOut (nT Q S K) ->LetsOut Q:=fun⟨a,w,h⟩=>⟨a,w,h⟩;rcases lZ hw with h1 | ⟨h1,h2⟩
  ·left
   unfold Oper.wp at h1⊢;rw [iA]at h1;generalize(execOp a.eval o).run P w=r at*;cases r with
   | ok n w'=>
    cases n <;>simp only [Oper.upon]at h1⊢
    case value=>exact MH _ _ h1
    case skip=>exact MH _ _ h1
    case defer=>exact MH _ _ h1
    case enter=>
     refine bY h1 fun e w'' he=>?_;cases e with
     | returned v=>exact MH _ _ he
     | panicked c=>exact he.elim
     | outgrown=>exact OI he
    case row=>exact Rows.mono h1 fun v w'' he=>MH _ _ he
   | halt x w'=>
    cases x <;>simp only [Oper.upon]at h1⊢
    case panic=>exact h1.elim
  ·exact .inr ⟨h1,OI h2⟩
 ·rw [az (by rw [hg];simp)]
  exact⟨hS,hK _ _ hS hk⟩
theorem lg {P:Program} {ops:Array Oper} {Q:Exit ->Act ->World ->Prop} {S:World ->Prop} (hQ:∀c a w,¬ Q (.panic c) a w) (hs:Region.noSelect ops=true):
  ∀(l:Ord) (fuel:Nat) (listed:Array Bool) (a:Act) (w:World),l.depth <=fuel ->qi ops l listed=true ->S w ->
   kj P ops.toList Q S l a w ->wpAnyH P .any ops Q S fuel listed a w
 | .nil,fuel,listed,a,w,_,LF,_,h=>by
  simp only [qi,List.isEmpty_iff]at LF;exact wpAnyH_done LF h fuel
 | Ord.cons i true rest,0,_,_,_,hl,_,_,_=>by simp [Ord.depth]at hl
 | Ord.cons i false rest,0,_,_,_,hl,_,_,_=>by simp [Ord.depth]at hl
 | Ord.cons i true rest,fuel+1,listed,a,w,hl,LF,hS,h=>by
  simp only [qi,bG]at LF;obtain⟨⟨⟨hv,hr⟩,hf⟩,Mn⟩:=LF;simp only [Ord.depth]at hl;obtain⟨o,ho,h⟩:=h;rw [nU,cA]at ho;rw [ho]at hv;simp only [Option.any_some]at hv;rcases h with⟨hg,d,hd,hds,a',hp,hk⟩ | ⟨hg,hk⟩
  ·refine wpAnyH_take (v:=a'.tmps.getD d undef) ho hs hf hr (fun c a w h=>(hQ _ _ _ h).elim) (.inl ⟨by rw [mf];exact hg,fun w' hw'=>?_⟩) hS ?_
   ·rcases lZ (hp w' hw')with h1 | ⟨_,h2⟩
    ·unfold Oper.wp at h1
     rw [iA]at h1;rcases mm (P:=P) (ρ:=a.eval) hv w' with⟨v,w2,LJ⟩ | ⟨x,w2,LJ⟩
     ·rw [LJ]at h1⊢
      obtain⟨_,h3,h4⟩:=h1;subst h4;subst h3;have:(bare o).dst=some d:=hd;rw [this];simp [Act.put,hds]
     ·rw [LJ]at h1
      cases x <;>simp only [Oper.upon]at h1
      case panic=>exact absurd h1.1 (by simp)
    ·obtain⟨_,_,h3,_⟩:=h2
     exact absurd h3 (by simp)
   ·have ha:a.put o.dst (a'.tmps.getD d undef)=a':=by
     rcases lZ (hp w hS)with h1 | ⟨_,h2⟩
     ·unfold Oper.wp at h1
      rw [iA]at h1;rcases mm (P:=P) (ρ:=a.eval) hv w with⟨v,w2,LJ⟩ | ⟨x,w2,LJ⟩
      ·rw [LJ]at h1
       obtain⟨_,h3,h4⟩:=h1;have hd':(bare o).dst=some d:=hd;rw [<- h3,hd',hd];simp [Act.put,hds]
      ·rw [LJ]at h1
       cases x <;>simp only [Oper.upon]at h1
       case panic=>exact absurd h1.1 (by simp)
     ·obtain⟨_,_,h3,_⟩:=h2
      exact absurd h3 (by simp)
    rw [ha];exact lg hQ hs rest fuel _ _ _ (by omega) Mn hS hk
  ·refine wpAnyH_take (v:=undef) ho hs hf hr (fun c a w h=>(hQ _ _ _ h).elim) (.inr ⟨by rw [mf];exact hg,rfl⟩) hS ?_
   exact lg hQ hs rest fuel _ _ _ (by omega) Mn hS hk
 | Ord.cons i false rest,fuel+1,listed,a,w,hl,LF,hS,h=>by
  simp only [qi,bG,dB]at LF;obtain⟨hr,Mn⟩:=LF;simp only [Ord.depth]at hl;obtain⟨o,ho,h⟩:=h;rw [nU,cA]at ho;refine wpAnyH_all hr (by simp) fun j hj=>?_;obtain rfl:j=i:=by simpa using hj
  unfold wpOp;simp only [ho];rw [mf];rcases h with⟨hg,hw⟩ | ⟨hg,hk⟩
  ·rw [aD hg]
   have MH:∀a' w',nT Q S (kj P ops.toList Q S rest) .normal a' w' ->S w'/\wpAnyH P .any ops Q S fuel (listed.setIfInBounds j true) a' w':=
    fun a' w' h=>⟨h.1,lg hQ hs rest fuel _ _ _ (by omega) Mn h.1 h.2⟩
   have OI:LetsOut (nT Q S (kj P ops.toList Q S rest)) ->LetsOut Q:=fun⟨a,w,h⟩=>⟨a,w,h⟩;rcases lZ hw with h1 | ⟨h1,h2⟩
   ·left
    unfold Oper.wp at h1⊢;rw [iA]at h1;generalize(execOp a.eval o).run P w=r at*;cases r with
    | ok n w'=>
     cases n <;>simp only [Oper.upon]at h1⊢
     case value=>exact MH _ _ h1
     case skip=>exact MH _ _ h1
     case defer=>exact MH _ _ h1
     case enter=>
      refine bY h1 fun e w'' he=>?_;cases e with
      | returned v=>exact MH _ _ he
      | panicked c=>exact he.elim
      | outgrown=>exact OI he
     case row=>exact Rows.mono h1 fun v w'' he=>MH _ _ he
    | halt x w'=>
     cases x <;>simp only [Oper.upon]at h1⊢
     case panic=>exact h1.elim
   ·exact .inr ⟨h1,OI h2⟩
  ·rw [az (by rw [hg];simp)]
   exact⟨hS,lg hQ hs rest fuel _ _ _ (by omega) Mn hS hk⟩
 | .fork i j ri rj,0,_,_,_,hl,_,_,_=>by simp [Ord.depth]at hl
 | .fork i j ri rj,fuel+1,listed,a,w,hl,LF,hS,h=>by
  simp only [qi,bG,dB]at LF;obtain⟨⟨hr,hok1⟩,hok2⟩:=LF;simp only [Ord.depth]at hl;refine wpAnyH_all hr (by simp) fun k hk=>?_;rcases(by simpa using hk:k=i\/k=j)with rfl | rfl
  ·exact mK hS (fun a w hS h=>lg hQ hs ri fuel _ a w (by omega) hok1 hS h) h.1
  ·exact mK hS (fun a w hS h=>lg hQ hs rj fuel _ a w (by omega) hok2 hS h) h.2
theorem lC {P:Program} {ops:List Oper} {Q:Exit ->Act ->World ->Prop} {id:Nat} {a:Act} {w:World} (S:World ->Prop) (l:Ord) (hm:P.follows .mixedOrders=true)
  (LF:(qi ops.toArray l (Array.replicate ops.length false)&&Region.noSelect ops.toArray&&decide (l.depth <=ops.length))=true) (hS:S w.drew)
  (h:kj P ops (NoPanic Q) S l a w.drew):(Code.region id ops.toArray true).wp P Q a w:=by
 simp only [bG,cW]at LF;obtain⟨⟨LF,hn⟩,hl⟩:=LF;refine wp_region_noPanic (wp_region_held (S:=S) hm ?_);refine lg (S:=S) (fun c a w h=>h) hn l _ _ a _ ?_ ?_ hS ?_
 ·simpa using hl
 ·simpa using LF
 ·simpa using h
section
variable {P:Program} {ops:List Oper} {Q:Exit ->Act ->World ->Prop} {S:World ->Prop} {i:Nat} {rest:Ord} {a:Act} {w:World} {d:Tmp} {op:Op} {t:TypeId} {p:String} {af:Array Edge} {g:Option (Nat × Bool)}
theorem im (hi:nth ops i=some ⟨some d,op,t,p,af,g⟩) (hg:kM ops g a=true) (hd:Nat.ble (d+1) a.tmps.size=true) {a':Act} (hp:∀w',S w' ->wpList P #[] (C4 a' w') [⟨some d,op,t,p,#[],none⟩] a w')
  (h:kj P ops Q S rest a' w):kj P ops Q S (.cons i true rest) a w:=
 ⟨_,hi, .inl ⟨hg,d,rfl,Nat.le_of_ble_eq_true hd,a',hp,h⟩⟩
theorem fE {dst:Option Tmp} (hi:nth ops i=some ⟨dst,op,t,p,af,g⟩) (hg:kM ops g a=true) (h:wpList P #[] (nT Q S (kj P ops Q S rest)) [⟨dst,op,t,p,#[],none⟩] a w):kj P ops Q S (.cons i false rest) a w:=
 ⟨_,hi, .inl ⟨hg,h⟩⟩
theorem ma (h:Q .normal a w):kj P ops Q S .nil a w:=h
theorem o7 {i j:Nat} {ri rj:Ord} {oi oj:Oper} (hi:nth ops i=some oi) (hj:nth ops j=some oj) (gi:kM ops oi.guard a=true) (gj:kM ops oj.guard a=true)
  (h1:wpList P #[] (nT Q S (kj P ops Q S ri)) [⟨oi.dst,oi.op,oi.type,oi.pos,#[],none⟩] a w) (h2:wpList P #[] (nT Q S (kj P ops Q S rj)) [⟨oj.dst,oj.op,oj.type,oj.pos,#[],none⟩] a w):
  kj P ops Q S (.fork i j ri rj) a w:=
 ⟨⟨_,hi, .inl ⟨gi,h1⟩⟩,⟨_,hj, .inl ⟨gj,h2⟩⟩⟩
end
end
def rU (P:Program) (ops:Array Oper) (Q:Exit ->Act ->World ->Prop) (S:World ->Prop) (d:Nat):Nat ->Array Bool ->Act ->World ->Prop
 | 0,listed,a,w=>Region.ready .any ops listed=[]/\Q .normal a w
 | fuel+1,listed,a,w=>
  (Region.ready .any ops listed=[] ->Q .normal a w)/\
  ∀i∈Region.ready .any ops listed,wpOp P ops Q i (fun a' w'=>(i=d ->wpAny P .any ops Q fuel (listed.setIfInBounds i true) a' w')/\(i≠d ->S w'/\rU P ops Q S d fuel (listed.setIfInBounds i true) a' w')) a w
theorem tx {P:Program} {ops:Array Oper} {Q:Exit ->Act ->World ->Prop} {S:World ->Prop} {d:Nat}:∀(fuel:Nat) (listed:Array Bool) (a:Act) (w:World),rU P ops Q S d fuel listed a w ->wpAny P .any ops Q fuel listed a w
 | 0,_,_,_,h=>h
 | fuel+1,_,_,_,h=>⟨h.1,fun i hi=>wpOp_mono (fun a' w' h'=>by
   by_cases hd:i=d
   ·exact h'.1 hd
   ·exact tx fuel _ a' w' (h'.2 hd).2) (h.2 i hi)⟩
def blocked (ops:Array Oper) (listed:Array Bool) (i:Nat) (K:List Nat):Bool:=
 K.all fun k=>(listed.getD k true==false)&& !(k==i)&&(match ops[k]? with | some o=>o.after.any (fun e=>Region.binds .any e&&(e.on==i || K.contains e.on)) | none=>false)
def Jv (ops:Array Oper) (listed:Array Bool) (i:Nat):List Nat:=
 Nat.repeat (fun K=>K.filter fun k=>match ops[k]? with | some o=>o.after.any (fun e=>Region.binds .any e&&(e.on==i || K.contains e.on)) | none=>false) ops.size
  ((List.range ops.size).filter fun k=> !(k==i)&&(listed.getD k true==false))
theorem qH {listed:Array Bool} {i:Nat} (h:listed.getD i true=false):listed.getD i false=false:=by
 rcases bx i listed.size with h' | h'
 ·simp [h']at h⊢;exact h
 ·simp [Array.getElem?_eq_none h']at h
theorem pf {ops:Array Oper} {listed:Array Bool} {i:Nat} {K:List Nat} (hb:blocked ops listed i K=true) (hi:listed.getD i true=false) {k:Nat} (hk:k∈K):k≠i/\k∉Region.ready .any ops listed:=by
 simp only [blocked,List.all_eq_true]at hb;have h1:=hb k hk;simp only [bG,dB,dO,beq_eq_false_iff_ne]at h1;obtain⟨⟨h2,h3⟩,h4⟩:=h1;refine⟨h3,fun hr=>?_⟩;obtain⟨_,o,ho,Mo⟩:=mem_ready.1 hr;rw [ho]at h4;obtain⟨e,he,PF⟩:=Array.any_eq_true'.1 h4;simp only [bG,Bool.or_eq_true,dB]at PF;have h5:=Mo e he PF.1;rcases PF.2 with h6 | h6
 ·rw [h6,qH hi]at h5
  cases h5
 ·have h7:=hb e.on (by simpa using h6)
  simp only [bG,dB]at h7;rw [qH h7.1.1]at h5;cases h5
theorem At {ops:Array Oper} {listed:Array Bool} {i j:Nat} {K:List Nat} (hb:blocked ops listed i K=true) (hj:j∉K):blocked ops (listed.setIfInBounds j true) i K=true:=by
 simp only [blocked,List.all_eq_true]at hb⊢;intro k hk;have h1:=hb k hk;have hjk:j≠k:=fun h=>hj (by rw [h];exact hk);rw [getD_set_ne true hjk];exact h1
theorem rp {P:Program} {ops:Array Oper} {Q:Exit ->Act ->World ->Prop} {S:World ->Prop} {d i:Nat} {oi:Oper} {v:Value} {K:List Nat} (hd:d∈K) (hi:ops[i]?=some oi) (hsel:∀(j:Nat) (o:Oper) cs b,ops[j]?=some o ->o.op≠ .select cs b)
  (hQ:∀c a w,¬ Q (.panic c) a w):
  ∀(fuel:Nat) (listed:Array Bool) (a:Act) (w:World),
   (∀j oj,ops[j]?=some oj ->j≠i ->listed.getD j true=false ->(∀e∈oj.after,Region.binds .any e=true ->e.on≠i) ->oi.apart ops oj=true) ->
   i∈Region.ready .any ops listed ->blocked ops listed i K=true ->YieldsIf P ops S oi v a ->S w ->
   rU P ops Q S d fuel (listed.setIfInBounds i true) (a.put oi.dst v) w ->rU P ops Q S d (fuel+1) listed a w:=by
 intro fuel
 induction fuel with
 | zero=>
  intro listed a w _ hr hb hy hS H;refine⟨fun h=>(by rw [h]at hr;cases hr),fun j hj=>?_⟩;have hdi:=(pf hb (mem_ready.1 hr).1 hd).1;by_cases hji:j=i
  ·subst hji;exact hy.wpOp hi hS ⟨fun h=>absurd h.symm hdi,fun _=>⟨hS,H⟩⟩
  ·have:=ready_mono hj hji
   rw [H.1]at this;cases this
 | succ fuel ih=>
  intro listed a w hfree hr hb hy hS H;refine⟨fun h=>(by rw [h]at hr;cases hr),fun j hj=>?_⟩;have hdi:=(pf hb (mem_ready.1 hr).1 hd).1;by_cases hji:j=i
  ·subst hji;exact hy.wpOp hi hS ⟨fun h=>absurd h.symm hdi,fun _=>⟨hS,H⟩⟩
  ·have hjK:j∉K:=fun h=>(pf hb (mem_ready.1 hr).1 h).2 hj
   have hjd:j≠d:=fun h=>hjK (h▸hd);have h1:=wpOp_mono (fun a' w' h=>h.2 hjd) (H.2 j (ready_mono hj hji));obtain⟨hjun,oj,hoj,Mo⟩:=mem_ready.1 hj;have hnot:∀e∈oj.after,Region.binds .any e=true ->e.on≠i:=fun e he hb heq=>by
    have h1:=Mo e he hb;have h0:=(mem_ready.1 hr).1;rw [heq,qH h0]at h1;cases h1
   have h2:=wpOp_putIf hoj (hfree j oj hoj hji hjun hnot) (fun cs b=>hsel i oi cs b hi) (fun cs b=>hsel j oj cs b hoj) (fun c a w h=>(hQ _ _ _ h).elim) hy h1;have hfree':∀k ok,ops[k]?=some ok ->k≠i ->(listed.setIfInBounds j true).getD k true=false ->
     (∀e∈ok.after,Region.binds .any e=true ->e.on≠i) ->oi.apart ops ok=true:=fun k ok hk hki hun MR=>by
    refine hfree k ok hk hki ?_ MR;by_cases hjk:j=k
    ·subst hjk;exact hjun
    ·rw [getD_set_ne true hjk]at hun;exact hun
   refine wpOp_mono (fun a' w' h3=>⟨fun h=>absurd h hjd,fun _=>⟨h3.2.1,ih (listed.setIfInBounds j true) a' w' hfree' (ready_mono hr (Ne.symm hji)) (At hb hjK) h3.1 h3.2.1 ?_⟩⟩) h2;rw [Array.setIfInBounds_comm _ _ hji];exact h3.2.2
def Af (P:Program) (ops:List Oper) (Q:Exit ->Act ->World ->Prop) (d:Nat):Exit ->Act ->World ->Prop
 | .normal,a,w=>∃o,nth ops d=some o/\
   ((kM ops o.guard a=true/\wpList P #[] (nT Q (fun _=>True) (Q .normal)) [bare o] a w)\/(kM ops o.guard a=false/\Q .normal (a.put o.dst undef) w))
 | e,a,w=>Q e a w
def qw (ops:Array Oper) (d:Nat):List (Nat × Bool) ->Array Bool ->Bool
 | [],listed=>(Region.ready .any ops listed==[d])&&(Region.ready .any ops (listed.setIfInBounds d true)).isEmpty
 | (i,true)::rest,listed=>(ops[i]?.any fun o=>isVal o.op)&&(Region.ready .any ops listed).contains i&&Region.free .any ops listed i&&blocked ops listed i (Jv ops listed i)&&(Jv ops listed i).contains d&&qw ops d rest (listed.setIfInBounds i true)
 | (i,false)::rest,listed=> !(i==d)&&(Region.ready .any ops listed==[i])&&qw ops d rest (listed.setIfInBounds i true)
theorem D8 {P:Program} {ops:Array Oper} {Q Q':Exit ->Act ->World ->Prop} {i:Nat} {K:Act ->World ->Prop} {a:Act} {w:World} (hp:∀c a w,Q (.panic c) a w ->Q' (.panic c) a w) (hl:LetsOut Q ->LetsOut Q') (h:wpOp P ops Q i K a w):wpOp P ops Q' i K a w:=by
 unfold wpOp at*;split
 ·rename_i ho
  simp only [ho]at h;exact h
 ·rename_i o ho
  simp only [ho]at h;split
  ·rename_i hw
   simp only [hw,cO]at h;rcases h with h | ⟨h1,h2⟩
   ·left
    unfold Oper.wp at*;generalize(execOp a.eval o).run P w=r at*;cases r with
    | ok n w'=>
     cases n <;>simp only [Oper.upon]at h⊢
     case value=>exact h
     case skip=>exact h
     case defer=>exact h
     case enter=>
      refine bY h fun e w'' he=>?_;cases e with
      | returned v=>exact he
      | panicked c=>exact hp _ _ _ he
      | outgrown=>exact hl he
     case row=>exact Rows.mono h fun _ _ he=>he
    | halt x w'=>
     cases x <;>simp only [Oper.upon]at h⊢
     case panic=>exact hp _ _ _ h
   ·exact .inr ⟨h1,hl h2⟩
  ·rename_i hw
   simp only [hw]at h;exact h
theorem nc {P:Program} {ops:Array Oper} {Q:Exit ->Act ->World ->Prop} {S:World ->Prop} {d:Nat} (hQ:∀c a w,¬ Q (.panic c) a w) (hs:Region.noSelect ops=true):
  ∀(l:List (Nat × Bool)) (fuel:Nat) (listed:Array Bool) (a:Act) (w:World),l.length+1 <=fuel ->qw ops d l listed=true ->S w ->
   iH P ops.toList (Af P ops.toList Q d) S l a w ->rU P ops Q S d fuel listed a w
 | l,0,_,_,_,hl,_,_,_=>by omega
 | [],fuel+1,listed,a,w,_,LF,_,h=>by
  simp only [qw,bG,dB,List.isEmpty_iff]at LF;refine⟨fun h0=>(by rw [LF.1]at h0;cases h0),fun j hj=>?_⟩;rw [LF.1]at hj;obtain rfl:j=d:=by simpa using hj
  have h2:=mK (S:=fun _=>True) (K:=Q .normal) (K':=Q .normal) (Q:=Q) (ops:=ops) (j:=j) trivial (fun a w _ h=>h) h;refine wpOp_mono (fun a' w' h3=>⟨fun _=>?_,fun h=>absurd rfl h⟩) h2;cases fuel with
  | zero=>exact⟨LF.2,h3.2⟩
  | succ f=>exact⟨fun _=>h3.2,by rw [LF.2];simp⟩
 | (i,true)::rest,fuel+1,listed,a,w,hl,LF,hS,h=>by
  simp only [qw,bG]at LF;obtain⟨⟨⟨⟨⟨hv,hr⟩,hf⟩,Mf⟩,QF⟩,Mn⟩:=LF;have QF:d∈Jv ops listed i:=by simpa using QF
  simp only [aE]at hl;obtain⟨o,ho,h⟩:=h;rw [nU,cA]at ho;rw [ho]at hv;simp only [Option.any_some]at hv;rcases h with⟨hg,d',hd,hds,a',hp,hk⟩ | ⟨hg,hk⟩
  ·refine rp (v:=a'.tmps.getD d' undef) QF ho (Region.noSelect_spec hs) hQ fuel listed a w (Region.free_spec ho hf) (by simpa using hr) Mf (.inl ⟨by rw [mf];exact hg,fun w' hw'=>?_⟩) hS ?_
   ·rcases lZ (hp w' hw')with h1 | ⟨_,h2⟩
    ·unfold Oper.wp at h1
     rw [iA]at h1;rcases mm (P:=P) (ρ:=a.eval) hv w' with⟨v,w2,LJ⟩ | ⟨x,w2,LJ⟩
     ·rw [LJ]at h1⊢
      obtain⟨_,h3,h4⟩:=h1;subst h4;subst h3;have:(bare o).dst=some d':=hd;rw [this];simp [Act.put,hds]
     ·rw [LJ]at h1
      cases x <;>simp only [Oper.upon]at h1
      case panic=>exact absurd h1.1 (by simp)
    ·obtain⟨_,_,h3,_⟩:=h2
     exact absurd h3 (by simp)
   ·have ha:a.put o.dst (a'.tmps.getD d' undef)=a':=by
     rcases lZ (hp w hS)with h1 | ⟨_,h2⟩
     ·unfold Oper.wp at h1
      rw [iA]at h1;rcases mm (P:=P) (ρ:=a.eval) hv w with⟨v,w2,LJ⟩ | ⟨x,w2,LJ⟩
      ·rw [LJ]at h1
       obtain⟨_,h3,h4⟩:=h1;have hd':(bare o).dst=some d':=hd;rw [<- h3,hd',hd];simp [Act.put,hds]
      ·rw [LJ]at h1
       cases x <;>simp only [Oper.upon]at h1
       case panic=>exact absurd h1.1 (by simp)
     ·obtain⟨_,_,h3,_⟩:=h2
      exact absurd h3 (by simp)
    rw [ha];exact nc hQ hs rest fuel _ _ _ (by omega) Mn hS hk
  ·refine rp (v:=undef) QF ho (Region.noSelect_spec hs) hQ fuel listed a w (Region.free_spec ho hf) (by simpa using hr) Mf (.inr ⟨by rw [mf];exact hg,rfl⟩) hS ?_
   exact nc hQ hs rest fuel _ _ _ (by omega) Mn hS hk
 | (i,false)::rest,fuel+1,listed,a,w,hl,LF,hS,h=>by
  simp only [qw,bG,dB,dO,beq_eq_false_iff_ne]at LF;obtain⟨⟨V,hr⟩,Mn⟩:=LF;simp only [aE]at hl;refine⟨fun h0=>(by rw [hr]at h0;cases h0),fun j hj=>?_⟩;rw [hr]at hj;obtain rfl:j=i:=by simpa using hj
  have hlq:LetsOut (Af P ops.toList Q d) ->LetsOut Q:=fun⟨a,w,h⟩=>⟨a,w,h⟩;have h2:=mK (S:=S) (Q:=Af P ops.toList Q d) (K':=rU P ops Q S d fuel (listed.setIfInBounds j true)) (ops:=ops) (j:=j) hS (fun a w hS h=>nc hQ hs rest fuel _ a w (by omega) Mn hS h) h;exact D8 (fun c a w h=>h) hlq (wpOp_mono (fun a' w' h3=>⟨fun h=>absurd h V,fun _=>h3⟩) h2)
theorem eK {P:Program} {ops:List Oper} {Q:Exit ->Act ->World ->Prop} {id:Nat} {a:Act} {w:World} (S:World ->Prop) (d:Nat) (l:List (Nat × Bool)) (hm:P.follows .mixedOrders=true)
  (LF:(qw ops.toArray d l (Array.replicate ops.length false)&&Region.noSelect ops.toArray&&decide (l.length+1 <=ops.length))=true) (hS:S w.drew)
  (h:iH P ops (Af P ops (NoPanic Q) d) S l a w.drew):(Code.region id ops.toArray true).wp P Q a w:=by
 simp only [bG,cW]at LF;obtain⟨⟨LF,hn⟩,hl⟩:=LF;refine wp_region_noPanic (wp_region_any hm (tx (S:=S) (d:=d) _ _ _ _ ?_));refine nc (S:=S) (fun c a w h=>h) hn l _ _ a _ ?_ ?_ hS ?_
 ·simpa using hl
 ·simpa using LF
 ·simpa using h
theorem fu {P:Program} {ops:List Oper} {Q:Exit ->Act ->World ->Prop} {S:World ->Prop} {d:Nat} {a:Act} {w:World} {op:Op} {t:TypeId} {p:String} {af:Array Edge} {g:Option (Nat × Bool)} {dst:Option Tmp}
  (hi:nth ops d=some ⟨dst,op,t,p,af,g⟩) (hg:kM ops g a=true) (h:wpList P #[] (nT Q (fun _=>True) (Q .normal)) [⟨dst,op,t,p,#[],none⟩] a w):iH P ops (Af P ops Q d) S [] a w:=
 ⟨_,hi, .inl ⟨hg,h⟩⟩
end Go.Proofs.YtjmeglibedbljaaGreatDoor
