import Derived.Test.YthbjdhjppbcneaaGreatDoorFramesJ2
namespace Go.Proofs.YthbjdhjppbcneaaGreatDoor
set_option maxRecDepth 100000
set_option maxHeartbeats 20000000
open Go.RowKit Tryz
open Lib renaming hid->V
set_option linter.all false
def pa {α:Type} (la lb:List α) (w:World) (e:Ending) (w':World):Prop:=∃r:Bool,e= .returned (.bool r)/\(r=true↔la=lb)/\Below w.heap.size w w'
def zA {α:Type} (la lb:List α) (w w':World) (k:Nat):Prop:=k <=la.length/\la.take k=lb.take k/\Below w.heap.size w w'
def sN (b off b2 KZ k:Nat) (e d:fa) (w:World):Prop:=
 (w.cell? ⟨b,off+k*2,none⟩=some (.int .i64 e.kind)/\w.cell? ⟨b,off+k*2+1,none⟩=some (.int .i64 e.n))/\
 w.cell? ⟨b2,KZ+k*2,none⟩=some (.int .i64 d.kind)/\w.cell? ⟨b2,KZ+k*2+1,none⟩=some (.int .i64 d.n)
def qP (b off b2 KZ k:Nat) (e d:kR) (w:World):Prop:=
 (w.cell? ⟨b,off+k*2,none⟩=some (.int .i64 e.pos)/\w.cell? ⟨b,off+k*2+1,none⟩=some (.int .i64 e.eM))/\
 w.cell? ⟨b2,KZ+k*2,none⟩=some (.int .i64 d.pos)/\w.cell? ⟨b2,KZ+k*2+1,none⟩=some (.int .i64 d.eM)
theorem sA (va vb:Value) (la lb:List fa) (w:World) (ha:eg 2 gb w va la) (hb:eg 2 gb w vb lb):Calls prog 129 #[va,vb] w (pa la lb w):=by
 have HA:=V ha;have HB:=V hb;obtain⟨a,cap,rfl,h1,h2,_⟩:=ha;obtain⟨a2,KA,rfl,h3,h4,_⟩:=hb;unfold maxLen at h2 h4;by_cases hlen:la.length=lb.length;rotate_left
 ·have f1:(((la.length:Int)) !=((lb.length:Int)))=true:=ff (by omega)
  have HL:=V hlen;clear hlen;go_enter func129,ntmps129;go_wp2_with fail;go_ret;exact⟨false,rfl,⟨fun h=>(by cases h),fun h=>absurd (cV List.length h) HL.out⟩,an _ _⟩
 rw [<- hlen]at h3⊢;have HL:=V hlen;clear hlen;go_enter func129,ntmps129;go_wp2_with fail;refine eB (fun a' w'=>∃(k:Nat),a'=fr (.slice a la.length cap:: .slice a2 la.length KA::gs a' 2 10 (.int .i64 la.length:: .int .i64 k::gs a' 14 12 []))/\zA la lb w w' k) (fun a' _=>(la.length - (intOf (a'.tmps.getD 13 undef)).toNat)) ?_ ?_
 ·exact⟨0,rfl,by omega,rfl,an _ _⟩
 ·skip
  rintro R a' w1 ⟨k,Kw,hJ⟩ HR;dsimp only [fr,gs]at Kw;generalize slot a'=f at Kw;subst Kw;obtain⟨hk,Oa,hb⟩:=hJ;have HT:=V Oa;clear Oa;by_cases Ls:k < la.length;rotate_left
  ·obtain rfl:k=la.length:=by omega
   go_wp2_with fail;go_ret;refine⟨true,rfl,⟨fun _=>?_,fun _=>rfl⟩,hb⟩;have:=HT.out;rw [aU,HL.out,aU]at this;exact this
  obtain⟨e,he⟩:∃e,la[k]?=some e:=⟨_,aq Ls⟩;obtain⟨d,hd⟩:∃d,lb[k]?=some d:=⟨_,aq (by have:=HL.out;omega)⟩;obtain⟨a',KR,hv,_,_,Kt⟩:=HA.out.below (hb.mono (ag _));obtain⟨a2',cap2',Mf,_,_,LJ⟩:=HB.out.below (hb.mono (ag _));injection hv with e1 e2 e3;injection Mf with e4 e5 e6;subst e1 e3 e4 e6;obtain⟨b,off,rfl,KC,hc⟩:=Kt k e he;obtain⟨b2,KZ,rfl,Mk,Lj⟩:=LJ k d hd;have c0:=hc 0 _ rfl;have c1:=hc 1 _ rfl;have c2:=Lj 0 _ rfl;have c3:=Lj 1 _ rfl;rw [aL]at c0 c2;have HE:=V he;have HD:=V hd;have cc:sN b off b2 KZ k e d w1.drew:=⟨⟨c0,c1⟩,c2,c3⟩;have CC:=V cc;clear Kt LJ e2 e5 he hd hc Lj c0 c1 c2 c3 cc;by_cases q1:e.kind=d.kind
  ·have f1:=eH q1
   have Q1:=V q1;clear q1;by_cases q2:e.n=d.n
   ·have f2:=eH q2
    have Q2:=V q2;clear q2;go_wp2_with fail;refine ef (sN b off b2 KZ k e d) (up 0 9 []) (by kernel_rfl) (by kernel_rfl) CC.out ?_;iterate 8 (first | (apply sk rfl rfl;simp only [pt]) | (apply dV rfl rfl rfl;·(rintro w' ⟨⟨t0,t1⟩,t2,t3⟩;go_wp2;exact⟨rfl,rfl,rfl⟩)))
    iterate 1 (first | (apply sk rfl rfl;simp only [pt]) | (apply dV rfl rfl rfl;·(rintro w' ⟨⟨t0,t1⟩,t2,t3⟩;go_wp2;exact⟨rfl,rfl,rfl⟩)))
    refine eL ?_;refine aD ?_;go_wp2_with fail;refine HR.out _ _ ⟨k+1,rfl,by omega,?_,hb.drew⟩ ?_
    ·rw [aQ,aQ,HT.out,HE.out,HD.out]
     obtain⟨x0,x1⟩:=e;obtain⟨y0,y1⟩:=d;have g0:=Q1.out;have g1:=Q2.out;simp only at g0 g1;rw [g0,g1]
    ·simp [intOf]
     omega
   ·have f2:=dS q2
    have HX:=V (show e.n≠d.n from q2);clear q2;go_wp2_with fail;refine ef (sN b off b2 KZ k e d) (up 0 9 []) (by kernel_rfl) (by kernel_rfl) CC.out ?_;iterate 8 (first | (apply sk rfl rfl;simp only [pt]) | (apply dV rfl rfl rfl;·(rintro w' ⟨⟨t0,t1⟩,t2,t3⟩;go_wp2;exact⟨rfl,rfl,rfl⟩)))
    iterate 1 (first | (apply sk rfl rfl;simp only [pt]) | (apply dV rfl rfl rfl;·(rintro w' ⟨⟨t0,t1⟩,t2,t3⟩;go_wp2;exact⟨rfl,rfl,rfl⟩)))
    refine eL ?_;refine aD ?_;go_wp2_with fail;go_ret;refine⟨false,rfl,⟨fun h=>(by cases h),fun h=>?_⟩,hb.drew⟩;have h1:=HE.out;rw [h,HD.out]at h1;injection h1 with h1;exact(HX.out (by rw [h1])).elim
  ·have f1:=dS q1
   have HX:=V (show e.kind≠d.kind from q1);clear q1;go_wp2_with fail;refine ef (sN b off b2 KZ k e d) (up 0 9 []) (by kernel_rfl) (by kernel_rfl) CC.out ?_;iterate 8 (first | (apply sk rfl rfl;simp only [pt]) | (apply dV rfl rfl rfl;·(rintro w' ⟨⟨t0,t1⟩,t2,t3⟩;go_wp2;exact⟨rfl,rfl,rfl⟩)))
   iterate 1 (first | (apply sk rfl rfl;simp only [pt]) | (apply dV rfl rfl rfl;·(rintro w' ⟨⟨t0,t1⟩,t2,t3⟩;go_wp2;exact⟨rfl,rfl,rfl⟩)))
   refine eL ?_;refine aD ?_;go_wp2_with fail;go_ret;refine⟨false,rfl,⟨fun h=>(by cases h),fun h=>?_⟩,hb.drew⟩;have h1:=HE.out;rw [h,HD.out]at h1;injection h1 with h1;exact(HX.out (by rw [h1])).elim
theorem xh (va vb:Value) (la lb:List kR) (w:World) (ha:eg 2 kp w va la) (hb:eg 2 kp w vb lb):Calls prog 132 #[va,vb] w (pa la lb w):=by
 have HA:=V ha;have HB:=V hb;obtain⟨a,cap,rfl,h1,h2,_⟩:=ha;obtain⟨a2,KA,rfl,h3,h4,_⟩:=hb;unfold maxLen at h2 h4;by_cases hlen:la.length=lb.length;rotate_left
 ·have f1:(((la.length:Int)) !=((lb.length:Int)))=true:=ff (by omega)
  have HL:=V hlen;clear hlen;go_enter func132,ntmps132;go_wp2_with fail;go_ret;exact⟨false,rfl,⟨fun h=>(by cases h),fun h=>absurd (cV List.length h) HL.out⟩,an _ _⟩
 rw [<- hlen]at h3⊢;have HL:=V hlen;clear hlen;go_enter func132,ntmps132;go_wp2_with fail;refine eB (fun a' w'=>∃(k:Nat),a'=fr (.slice a la.length cap:: .slice a2 la.length KA::gs a' 2 10 (.int .i64 la.length:: .int .i64 k::gs a' 14 12 []))/\zA la lb w w' k) (fun a' _=>(la.length - (intOf (a'.tmps.getD 13 undef)).toNat)) ?_ ?_
 ·exact⟨0,rfl,by omega,rfl,an _ _⟩
 ·skip
  rintro R a' w1 ⟨k,Kw,hJ⟩ HR;dsimp only [fr,gs]at Kw;generalize slot a'=f at Kw;subst Kw;obtain⟨hk,Oa,hb⟩:=hJ;have HT:=V Oa;clear Oa;by_cases Ls:k < la.length;rotate_left
  ·obtain rfl:k=la.length:=by omega
   go_wp2_with fail;go_ret;refine⟨true,rfl,⟨fun _=>?_,fun _=>rfl⟩,hb⟩;have:=HT.out;rw [aU,HL.out,aU]at this;exact this
  obtain⟨e,he⟩:∃e,la[k]?=some e:=⟨_,aq Ls⟩;obtain⟨d,hd⟩:∃d,lb[k]?=some d:=⟨_,aq (by have:=HL.out;omega)⟩;obtain⟨a',KR,hv,_,_,Kt⟩:=HA.out.below (hb.mono (ag _));obtain⟨a2',cap2',Mf,_,_,LJ⟩:=HB.out.below (hb.mono (ag _));injection hv with e1 e2 e3;injection Mf with e4 e5 e6;subst e1 e3 e4 e6;obtain⟨b,off,rfl,KC,hc⟩:=Kt k e he;obtain⟨b2,KZ,rfl,Mk,Lj⟩:=LJ k d hd;have c0:=hc 0 _ rfl;have c1:=hc 1 _ rfl;have c2:=Lj 0 _ rfl;have c3:=Lj 1 _ rfl;rw [aL]at c0 c2;have HE:=V he;have HD:=V hd;have cc:qP b off b2 KZ k e d w1.drew:=⟨⟨c0,c1⟩,c2,c3⟩;have CC:=V cc;clear Kt LJ e2 e5 he hd hc Lj c0 c1 c2 c3 cc;by_cases q1:e.pos=d.pos
  ·have f1:=eH q1
   have Q1:=V q1;clear q1;by_cases q2:e.eM=d.eM
   ·have f2:=eH q2
    have Q2:=V q2;clear q2;go_wp2_with fail;refine ef (qP b off b2 KZ k e d) (up 0 9 []) (by kernel_rfl) (by kernel_rfl) CC.out ?_;iterate 8 (first | (apply sk rfl rfl;simp only [pt]) | (apply dV rfl rfl rfl;·(rintro w' ⟨⟨t0,t1⟩,t2,t3⟩;go_wp2;exact⟨rfl,rfl,rfl⟩)))
    iterate 1 (first | (apply sk rfl rfl;simp only [pt]) | (apply dV rfl rfl rfl;·(rintro w' ⟨⟨t0,t1⟩,t2,t3⟩;go_wp2;exact⟨rfl,rfl,rfl⟩)))
    refine eL ?_;refine aD ?_;go_wp2_with fail;refine HR.out _ _ ⟨k+1,rfl,by omega,?_,hb.drew⟩ ?_
    ·rw [aQ,aQ,HT.out,HE.out,HD.out]
     obtain⟨x0,x1⟩:=e;obtain⟨y0,y1⟩:=d;have g0:=Q1.out;have g1:=Q2.out;simp only at g0 g1;rw [g0,g1]
    ·simp [intOf]
     omega
   ·have f2:=dS q2
    have HX:=V (show e.eM≠d.eM from q2);clear q2;go_wp2_with fail;refine ef (qP b off b2 KZ k e d) (up 0 9 []) (by kernel_rfl) (by kernel_rfl) CC.out ?_;iterate 8 (first | (apply sk rfl rfl;simp only [pt]) | (apply dV rfl rfl rfl;·(rintro w' ⟨⟨t0,t1⟩,t2,t3⟩;go_wp2;exact⟨rfl,rfl,rfl⟩)))
    iterate 1 (first | (apply sk rfl rfl;simp only [pt]) | (apply dV rfl rfl rfl;·(rintro w' ⟨⟨t0,t1⟩,t2,t3⟩;go_wp2;exact⟨rfl,rfl,rfl⟩)))
    refine eL ?_;refine aD ?_;go_wp2_with fail;go_ret;refine⟨false,rfl,⟨fun h=>(by cases h),fun h=>?_⟩,hb.drew⟩;have h1:=HE.out;rw [h,HD.out]at h1;injection h1 with h1;exact(HX.out (by rw [h1])).elim
  ·have f1:=dS q1
   have HX:=V (show e.pos≠d.pos from q1);clear q1;go_wp2_with fail;refine ef (qP b off b2 KZ k e d) (up 0 9 []) (by kernel_rfl) (by kernel_rfl) CC.out ?_;iterate 8 (first | (apply sk rfl rfl;simp only [pt]) | (apply dV rfl rfl rfl;·(rintro w' ⟨⟨t0,t1⟩,t2,t3⟩;go_wp2;exact⟨rfl,rfl,rfl⟩)))
   iterate 1 (first | (apply sk rfl rfl;simp only [pt]) | (apply dV rfl rfl rfl;·(rintro w' ⟨⟨t0,t1⟩,t2,t3⟩;go_wp2;exact⟨rfl,rfl,rfl⟩)))
   refine eL ?_;refine aD ?_;go_wp2_with fail;go_ret;refine⟨false,rfl,⟨fun h=>(by cases h),fun h=>?_⟩,hb.drew⟩;have h1:=HE.out;rw [h,HD.out]at h1;injection h1 with h1;exact(HX.out (by rw [h1])).elim
section
section
variable {α β:Type} {k:Nat} {enc:α × β ->List Value} {inner:World ->α ->β ->Prop}
def ee (k:Nat) (enc:α × β ->List Value) (inner:World ->α ->β ->Prop) (w:World) (v:Value) (l:List α):Prop:=
 ∃us:List β,us.length=l.length/\eg k enc w v (l.zip us)/\∀(i:Nat) (x:α) (u:β),l[i]?=some x ->us[i]?=some u ->inner w x u
theorem ee.below {w w':World} {v:Value} {l:List α} (h:ee k enc inner w v l) (hb:Below w.heap.size w w') (hi:∀x u,inner w x u ->inner w' x u):ee k enc inner w' v l:=by
 obtain⟨us,h1,h2,h3⟩:=h;exact⟨us,h1,h2.below hb,fun i x u hx hu=>hi x u (h3 i x u hx hu)⟩
theorem ee.nil (w:World):ee k enc inner w (.slice none 0 0) []:=⟨[],rfl,eg.nil w,by simp⟩
theorem ee.slice {w:World} {v:Value} {l:List α} (h:ee k enc inner w v l):∃a cap,v= .slice a l.length cap/\l.length <=cap/\cap <=9223372036854775807:=by
 obtain⟨us,h1,⟨a,cap,hv,h2,h3,_⟩,_⟩:=h;have:(l.zip us).length=l.length:=by rw [bG,h1,bZ]
 rw [this]at hv h2;exact⟨a,cap,hv,h2,h3⟩
theorem ee.get {w:World} {a:Option Addr} {n cap:Nat} {l:List α} (h:ee k enc inner w (.slice a n cap) l) {i:Nat} {x:α} (hx:l[i]?=some x):
  ∃b off u,a=some ⟨b,off,none⟩/\b < w.heap.size/\(∀j v,(enc (x,u))[j]?=some v ->w.cell? ⟨b,off+i*k+j,none⟩=some v)/\inner w x u:=by
 obtain⟨us,h1,⟨a',KR,hv,_,_,h2⟩,h3⟩:=h;injection hv with e1 e2 e3;subst e1;obtain⟨u,hu⟩:∃u,us[i]?=some u:=⟨_,aq (by rw [h1];exact(aN.1 hx).1)⟩;obtain⟨b,off,ha,KC,hc⟩:=h2 i (x,u) ((cI (z:=(x,u))).2 ⟨hx,hu⟩);exact⟨b,off,u,ha,KC,hc,h3 i x u hx hu⟩
end
end
structure eK where
 op:Int
 a:Int
 b:Int
 l:List Int
deriving DecidableEq
def pI (x:eK × Value):List Value:=[.int .i64 x.1.op, .int .i64 x.1.a, .int .i64 x.1.b,x.2]
def eK.ok (x:eK):Prop:=iI x.op/\iI x.a/\iI x.b/\∀n∈x.l,iI n
def gN (w:World) (x:eK) (u:Value):Prop:=eg 1 fb w u x.l/\x.ok
def gd (w:World) (v:Value) (l:List eK):Prop:=ee 4 pI gN w v l
theorem gN.below {w w':World} {x:eK} {u:Value} (h:gN w x u) (hb:Below w.heap.size w w'):gN w' x u:=⟨h.1.below hb,h.2⟩
theorem gd.below {w w':World} {v:Value} {l:List eK} (h:gd w v l) (hb:Below w.heap.size w w'):gd w' v l:=ee.below h hb (fun _ _ h=>h.below hb)
structure gr where
 params:List Int
 results:List Int
deriving DecidableEq
def rP (x:gr × Value × Value):List Value:=[x.2.1,x.2.2]
def gr.ok (x:gr):Prop:=(∀n∈x.params,iI n)/\∀n∈x.results,iI n
def gI (w:World) (x:gr) (u:Value × Value):Prop:=(eg 1 fb w u.1 x.params/\eg 1 fb w u.2 x.results)/\x.ok
def sK (w:World) (v:Value) (l:List gr):Prop:=ee 2 rP gI w v l
theorem gI.below {w w':World} {x:gr} {u:Value × Value} (h:gI w x u) (hb:Below w.heap.size w w'):gI w' x u:=⟨⟨h.1.1.below hb,h.1.2.below hb⟩,h.2⟩
theorem sK.below {w w':World} {v:Value} {l:List gr} (h:sK w v l) (hb:Below w.heap.size w w'):sK w' v l:=ee.below h hb (fun _ _ h=>h.below hb)
structure jh where
 mod:ByteArray
 name:ByteArray
 type:Int
deriving DecidableEq
def sF (x:jh):List Value:=[.string x.mod, .string x.name, .int .i64 x.type]
structure fP where
 has:Bool
 min:Int
 max:Int
deriving DecidableEq
def fP.ok (x:fP):Prop:=iI x.min/\iI x.max
structure ja where
 isVar:Bool
 init:fa
deriving DecidableEq
def sG (x:ja):List Value:=[.bool x.isVar, .int .i64 x.init.kind, .int .i64 x.init.n]
structure iC where
 name:ByteArray
 func:Int
deriving DecidableEq
def qK (x:iC):List Value:=[.string x.name, .int .i64 x.func]
structure iS where
 off:Int
 funcs:List Int
deriving DecidableEq
def tF (x:iS × Value):List Value:=[.int .i64 x.1.off,x.2]
def iS.ok (x:iS):Prop:=iI x.off/\∀n∈x.funcs,iI n
def gW (w:World) (x:iS) (u:Value):Prop:=eg 1 fb w u x.funcs/\x.ok
theorem gW.below {w w':World} {x:iS} {u:Value} (h:gW w x u) (hb:Below w.heap.size w w'):gW w' x u:=⟨h.1.below hb,h.2⟩
structure gF where
 locals:List Int
 body:List eK
deriving DecidableEq
def rH (x:gF × Value × Value):List Value:=[x.2.1,x.2.2]
def gH (w:World) (x:gF) (u:Value × Value):Prop:=(eg 1 fb w u.1 x.locals/\gd w u.2 x.body)/\∀n∈x.locals,iI n
theorem gH.below {w w':World} {x:gF} {u:Value × Value} (h:gH w x u) (hb:Below w.heap.size w w'):gH w' x u:=⟨⟨h.1.1.below hb,h.1.2.below hb⟩,h.2⟩
structure gp where
 off:Int
 bytes:List UInt8
deriving DecidableEq
def pW (x:gp × Value):List Value:=[.int .i64 x.1.off,x.2]
def gq (w:World) (x:gp) (u:Value):Prop:=eJ w u x.bytes/\iI x.off
theorem gq.below {w w':World} {x:gp} {u:Value} (h:gq w x u) (hb:Below w.heap.size w w'):gq w' x u:=⟨h.1.below hb,h.2⟩
structure ez where
 types:List gr
 imports:List jh
 funcs:List Int
 table:fP
 mem:fP
 globals:List ja
 ea:List iC
 elems:List iS
 ej:List gF
 eC:List gp
deriving DecidableEq
def ez.ok (m:ez):Prop:=(∀x∈m.imports,iI x.type)/\(∀n∈m.funcs,iI n)/\m.table.ok/\m.mem.ok/\(∀x∈m.globals,x.init.ok)/\∀x∈m.ea,iI x.func
structure eD where
 types:Value
 imports:Value
 funcs:Value
 globals:Value
 ea:Value
 elems:Value
 ej:Value
 eC:Value
def eD.cells (u:eD) (m:ez):Array Value:=
 #[u.types,u.imports,u.funcs, .bool m.table.has, .int .i64 m.table.min, .int .i64 m.table.max, .bool m.mem.has, .int .i64 m.mem.min, .int .i64 m.mem.max,u.globals,u.ea,u.elems,u.ej,u.eC]
def ep (w:World) (u:eD) (m:ez):Prop:=
 sK w u.types m.types/\eg 3 sF w u.imports m.imports/\eg 1 fb w u.funcs m.funcs/\eg 3 sG w u.globals m.globals/\eg 2 qK w u.ea m.ea/\ee 2 tF gW w u.elems m.elems/\ee 2 rH gH w u.ej m.ej/\ee 2 pW gq w u.eC m.eC/\m.ok
theorem ep.below {w w':World} {u:eD} {m:ez} (h:ep w u m) (hb:Below w.heap.size w w'):ep w' u m:=by
 obtain⟨h1,h2,h3,h4,h5,h6,h7,h8,h9⟩:=h;exact⟨h1.below hb,h2.below hb,h3.below hb,h4.below hb,h5.below hb,h6.below hb (fun _ _ h=>h.below hb),h7.below hb (fun _ _ h=>h.below hb),h8.below hb (fun _ _ h=>h.below hb),h9⟩
def lN (n a b:Int):Bool:=decide (a <=n)&&decide (n <=b)
theorem jM {n a b:Int}:lN n a b=true↔a <=n/\n <=b:=by simp [lN]
def sc (op:Int):Int × Int:=
 if lN op 69 79 || lN op 103 120 then(1,op)else if lN op 80 90 then(2,op - 80+69)else if lN op 121 138 then(2,op - 121+103)else(0,0)
def eX (op:Int):List Int × Int × Bool:=
 if op=167 then([2],1,true)else if op=172 then([1],2,true)else if op=173 then([1],2,true)else if(sc op).1=0 then([],0,false)else if(sc op).2=69 then([(sc op).1],1,true)
 else if lN (sc op).2 70 79 then([(sc op).1,(sc op).1],1,true)else if lN (sc op).2 103 105 then([(sc op).1],(sc op).1,true)else([(sc op).1,(sc op).1],(sc op).1,true)
theorem AQ {op:Int} (h:(eX op).2.2=true):69 <=op/\op <=173:=by
 unfold eX at h;by_cases h1:op=167
 ·omega
 rw [aC h1]at h;by_cases h2:op=172
 ·omega
 rw [aC h2]at h;by_cases h3:op=173
 ·omega
 rw [aC h3]at h;by_cases h4:(sc op).1=0
 ·rw [aJ h4]at h
  simp at h
 unfold sc at h4;by_cases g1:(lN op 69 79 || lN op 103 120)=true
 ·simp only [Bool.or_eq_true,jM]at g1
  omega
 rw [aC g1]at h4;by_cases g2:lN op 80 90=true
 ·rw [jM]at g2
  omega
 rw [aC g2]at h4;by_cases g3:lN op 121 138=true
 ·rw [jM]at g3
  omega
 rw [aC g3]at h4;exact absurd rfl h4
theorem uF (u:Nat) (rest:List UInt8) (hu:u < 4294967296):ib 32 (eP u++rest)=(u,(eP u).length,0):=by
 obtain⟨p,z,h1,h2,h3,h4⟩:=rf 9 u (by omega);change eP u=p++[z]at h1;have hp:p.length <=4:=by
  rcases rQ 10 u (by omega)with h | h
  ·change(eP u).length <=1 at h
   rw [h1]at h;simp at h;simp [h]
  ·change 128^((eP u).length - 1) <=u at h
   rw [h1,ah,aB,dc]at h;rcases bC 4 p.length with g | g
   ·have:(128:Nat)^5 <=128^p.length:=cP (by omega) g
    omega
   ·exact g
 have hl:fc 32 (eP u++rest)=((eP u).length,0):=by
  rw [h1,aP,dD];unfold fc;rw [aC (by omega),oC p z rest h2 h3,aC (by omega),aC (by simp)];simp
 unfold ib;rw [hl,aC (by simp)];have ht:(eP u++rest).take (eP u).length=eP u:=cO;simp only [ht];rw [ru (by omega),aJ ⟨rfl,by simpa using hu⟩]
theorem AY (n:Int) (rest:List UInt8) (h0: -2147483648 <=n) (h1:n <=2147483647):jq 32 (ie n++rest)=(n,(ie n).length,0):=by
 obtain⟨p,z,e1,e2,e3,e4⟩:=oS 9 n (by omega) (by omega);change ie n=p++[z]at e1;have hp:p.length <=4:=by
  rcases Cv 9 n (by omega) (by omega)with h | ⟨-,h⟩
  ·change(ie n).length=1 at h
   rw [e1]at h;simp at h;simp [h]
  ·change ¬ (-(64*128^((ie n).length - 2)) <=n/\n < 64*128^((ie n).length - 2))at h
   rw [e1,ah,aB]at h;rcases bC 4 p.length with g | g
   ·exfalso
    apply h;have h5:(128:Nat)^4 <=128^(p.length+1 - 2):=cP (by omega) (by omega);have h6:(128:Int)^4 <=128^(p.length+1 - 2):=by
     have:=Int.ofNat_le.2 h5;simpa using this
    have h7:(128:Int)^4=268435456:=by decide
    constructor <;>omega
   ·exact g
 have hl:fc 32 (ie n++rest)=((ie n).length,0):=by
  rw [e1,aP,dD];unfold fc;rw [aC (by omega),oC p z rest e2 e3,aC (by omega),aC (by simp)];simp
 unfold jq;rw [hl,aC (by simp)];have ht:(ie n++rest).take (ie n).length=ie n:=cO;simp only [ht];have h2:n < 9223372036854775808:=by omega
 rw [rU (by omega) h2,aJ ⟨rfl,by simpa using h0,by simp;omega⟩]
def fJ (op:Int):Nat:=
 if op=0\/op=1\/op=5\/op=11\/op=15\/op=26\/op=27 then 1
 else if op=2\/op=3\/op=4 then 2
 else if op=12\/op=13\/op=16\/op=32\/op=33\/op=34\/op=35\/op=36 then 3
 else if op=14 then 4
 else if op=17 then 5
 else if op=40\/op=41\/op=44\/op=45\/op=54\/op=55\/op=58 then 6
 else if op=63\/op=64 then 7
 else if op=65 then 8
 else if op=66 then 9
 else if(eX op).2.2=true then 1 else 0
theorem wK {op:Int} (h:fJ op≠0):0 <=op/\op <=173:=by
 unfold fJ at h
 repeat (split at h;·omega)
 rename_i hk;split at h
 ·rename_i hk
  have:=AQ hk;omega
 ·exact absurd rfl h
theorem nT (op:Int):fJ op <=9:=by
 unfold fJ
 repeat (split;·omega)
 omega
def fV (n:Int):Prop:=0 <=n/\n <=1000
instance (n:Int):Decidable (fV n):=by unfold fV;infer_instance
def eK.may (x:eK):Prop:=
 (fJ x.op≠4 ->x.l=[])/\(fJ x.op≠6 ->x.b=0)/\
 (fJ x.op=1/\x.a=0\/fJ x.op=2/\(0 <=x.a/\x.a <=2)\/fJ x.op=3/\fV x.a\/fJ x.op=4/\(fV x.a/\x.l.length <=50/\∀n∈x.l,fV n)\/fJ x.op=5/\fV x.a\/
  fJ x.op=6/\((0 <=x.a/\x.a <=3)/\0 <=x.b/\x.b <=4294967295)\/fJ x.op=7/\x.a=0\/fJ x.op=8/\(-2147483648 <=x.a/\x.a <=2147483647)\/fJ x.op=9)
instance (x:eK):Decidable x.may:=by unfold eK.may;infer_instance
def gh (x:eK):List UInt8:=
 match fJ x.op with
 | 2=>[if x.a=0 then 0x40 else if x.a=1 then 0x7f else 0x7e]
 | 3=>eP x.a.toNat
 | 4=>eP x.l.length++((x.l.map fun n=>eP n.toNat).flatten++eP x.a.toNat)
 | 5=>eP x.a.toNat++[0]
 | 6=>eP x.a.toNat++eP x.b.toNat
 | 7=>[0]
 | 8=>ie x.a
 | 9=>ie x.a
 | _=>[]
def ik (x:eK):List UInt8:=b8 (x.op.toNat %256)::gh x
def lh (MU:Nat) (l:List UInt8):Option (Nat × List UInt8):=if(ib 32 l).2.2=0/\(ib 32 l).1 <=MU then some ((ib 32 l).1,l.drop (ib 32 l).2.1)else none
def Bh (bits:Int) (l:List UInt8):Option (Int × List UInt8):=if(jq bits l).2.2=0 then some ((jq bits l).1,l.drop (jq bits l).2.1)else none
def oU:List UInt8 ->Option (List UInt8)
 | 0::l=>some l
 | _=>none
def oL (MU:Nat):Nat ->List UInt8 ->Option (List Int × List UInt8)
 | 0,l=>some ([],l)
 | n+1,l=>(lh MU l).bind fun x=>(oL MU n x.2).bind fun y=>some ((x.1:Int)::y.1,y.2)
def sh:List UInt8 ->Option (Int × List UInt8)
 | 0x40::l=>some (0,l)
 | 0x7f::l=>some (1,l)
 | 0x7e::l=>some (2,l)
 | _=>none
def gu:List UInt8 ->Option (eK × List UInt8)
 | []=>none
 | c::l=>match fJ c.toNat with
  | 1=>some (⟨c.toNat,0,0,[]⟩,l)
  | 2=>(sh l).bind fun x=>some (⟨c.toNat,x.1,0,[]⟩,x.2)
  | 3=>(lh 1000 l).bind fun x=>some (⟨c.toNat,x.1,0,[]⟩,x.2)
  | 4=>(lh 50 l).bind fun n=>(oL 1000 n.1 n.2).bind fun t=>(lh 1000 t.2).bind fun x=>some (⟨c.toNat,x.1,0,t.1⟩,x.2)
  | 5=>(lh 1000 l).bind fun x=>(oU x.2).bind fun r=>some (⟨c.toNat,x.1,0,[]⟩,r)
  | 6=>(lh 3 l).bind fun x=>(lh 4294967295 x.2).bind fun y=>some (⟨c.toNat,x.1,y.1,[]⟩,y.2)
  | 7=>(oU l).bind fun r=>some (⟨c.toNat,0,0,[]⟩,r)
  | 8=>(Bh 32 l).bind fun x=>some (⟨c.toNat,x.1,0,[]⟩,x.2)
  | 9=>(Bh 64 l).bind fun x=>some (⟨c.toNat,x.1,0,[]⟩,x.2)
  | _=>none
theorem mJ {MU n:Nat} (r:List UInt8) (h:n <=MU) (hl:MU < 4294967296):lh MU (eP n++r)=some (n,r):=by
 unfold lh;rw [uF n r (by omega)];simp [h]
theorem wJ {MU:Nat} (hl:MU < 4294967296):∀(l:List Int) (r:List UInt8),(∀n∈l,0 <=n/\n <=MU) ->oL MU l.length ((l.map fun n=>eP n.toNat).flatten++r)=some (l,r)
 | [],r,_=>rfl
 | n::l,r,h=>by
  obtain⟨h0,h1⟩:=h n (by simp);rw [bA,bS,aP,aI,oL,mJ _ (by omega) hl];simp only [aw,wJ hl l r (fun x hx=>h x (by simp [hx]))];have:((n.toNat:Nat):Int)=n:=by omega
  rw [this]
theorem CO (n:Int) (r:List UInt8) (h:iI n):Bh 64 (ie n++r)=some (n,r):=by
 unfold Bh;rw [tS n r h.1 h.2];simp
theorem Di (n:Int) (r:List UInt8) (h0: -2147483648 <=n) (h1:n <=2147483647):Bh 32 (ie n++r)=some (n,r):=by
 unfold Bh;rw [AY n r h0 h1];simp
theorem ox (x:eK) (r:List UInt8) (hm:x.may) (ho:x.ok):gu (ik x++r)=some (x,r):=by
 obtain⟨op,a,b,l⟩:=x;obtain⟨m1,m2,m3⟩:=hm;simp only at m1 m2 m3;have hf:fJ op≠0:=by
  rcases m3 with h | h | h | h | h | h | h | h | h <;>first | (rw [h.1];decide) | (rw [h];decide)
 obtain⟨o1,o2⟩:=wK hf;have hc:((b8 (op.toNat %256)).toNat:Int)=op:=by
  rw [fM (Nat.mod_lt _ (by omega))];omega
 have key:gu (ik ⟨op,a,b,l⟩++r)=(match fJ op with
  | 1=>some (⟨op,0,0,[]⟩,gh ⟨op,a,b,l⟩++r)
  | 2=>(sh (gh ⟨op,a,b,l⟩++r)).bind fun x=>some (⟨op,x.1,0,[]⟩,x.2)
  | 3=>(lh 1000 (gh ⟨op,a,b,l⟩++r)).bind fun x=>some (⟨op,x.1,0,[]⟩,x.2)
  | 4=>(lh 50 (gh ⟨op,a,b,l⟩++r)).bind fun n=>(oL 1000 n.1 n.2).bind fun t=>(lh 1000 t.2).bind fun x=>some (⟨op,x.1,0,t.1⟩,x.2)
  | 5=>(lh 1000 (gh ⟨op,a,b,l⟩++r)).bind fun x=>(oU x.2).bind fun r=>some (⟨op,x.1,0,[]⟩,r)
  | 6=>(lh 3 (gh ⟨op,a,b,l⟩++r)).bind fun x=>(lh 4294967295 x.2).bind fun y=>some (⟨op,x.1,y.1,[]⟩,y.2)
  | 7=>(oU (gh ⟨op,a,b,l⟩++r)).bind fun r=>some (⟨op,0,0,[]⟩,r)
  | 8=>(Bh 32 (gh ⟨op,a,b,l⟩++r)).bind fun x=>some (⟨op,x.1,0,[]⟩,x.2)
  | 9=>(Bh 64 (gh ⟨op,a,b,l⟩++r)).bind fun x=>some (⟨op,x.1,0,[]⟩,x.2)
  | _=>none):=by
  show(match fJ ((b8 (op.toNat %256)).toNat:Int)with | 1=>_ | 2=>_ | 3=>_ | 4=>_ | 5=>_ | 6=>_ | 7=>_ | 8=>_ | 9=>_ | _=>_)=_;rw [hc];rfl
 rw [key];rcases m3 with⟨h,h1⟩ | ⟨h,h1,h2⟩ | ⟨h,h1,h2⟩ | ⟨h,⟨h1,h2⟩,h3,h4⟩ | ⟨h,h1,h2⟩ | ⟨h,⟨h1,h2⟩,h3,h4⟩ | ⟨h,h1⟩ | ⟨h,h1,h2⟩ | h
 all_goals
  unfold gh;simp only [h]
 ·rw [h1,m1 (by omega),m2 (by omega)]
  rfl
 ·rw [m1 (by omega),m2 (by omega)]
  rcases(show a=0\/a=1\/a=2 by omega)with rfl | rfl | rfl <;>rfl
 ·rw [mJ r (by omega) (by omega),m1 (by omega),m2 (by omega)]
  have:((a.toNat:Nat):Int)=a:=by omega
  simp [this]
 ·rw [aP,aP,mJ _ (by omega) (by omega)]
  simp only [aw];rw [wJ (by omega) l _ (fun n hn=>by have:=h4 n hn;exact⟨this.1,by have:=this.2;omega⟩)];simp only [aw];rw [mJ r (by omega) (by omega),m2 (by omega)];have:((a.toNat:Nat):Int)=a:=by omega
  simp [this]
 ·rw [aP,mJ _ (by omega) (by omega),m1 (by omega),m2 (by omega)]
  have:((a.toNat:Nat):Int)=a:=by omega
  simp [this,oU]
 ·rw [aP,mJ _ (by omega) (by omega)]
  simp only [aw];rw [mJ _ (by omega) (by omega),m1 (by omega)];have e1:((a.toNat:Nat):Int)=a:=by omega
  have e2:((b.toNat:Nat):Int)=b:=by omega
  simp [e1,e2]
 ·rw [h1,m1 (by omega),m2 (by omega)]
  rfl
 ·rw [Di a r h1 h2,m1 (by omega),m2 (by omega)]
  rfl
 ·rw [CO a r ho.2.1,m1 (by omega),m2 (by omega)]
  rfl
structure kl where
 pos:Int
 JR:Int
 fin:Int
deriving DecidableEq
def wg (b:kl):List Value:=[.int .i64 b.pos, .int .i64 b.JR, .int .i64 b.fin]
def jS (op:Int):Bool:=op==2 || op==3 || op==4
def gf (l:List eK) (i:Nat) (x:eK) (st:List kl × List Nat):Option (List kl × List Nat):=
 if jS x.op then(if st.2.length=40 then none else some (st.1++[⟨i,-1,-1⟩],st.2++[st.1.length]))
 else if x.op≠5/\x.op≠11 then some st
 else match st.2.getLast? with
  | none=>none
  | some k=>match st.1[k]? with
   | none=>none
   | some b=>if x.op=11 then some (st.1.set k {b with fin:=i},st.2.dropLast)
    else match l[b.pos.toNat]? with
     | none=>none
     | some y=>if y.op≠4\/0 <=b.JR then none else some (st.1.set k {b with JR:=i},st.2)
def gx (l:List eK):List eK ->Nat ->List kl × List Nat ->Option (List kl × List Nat)
 | [],_,st=>some st
 | x::rest,i,st=>(gf l i x st).bind fun NN=>gx l rest (i+1) NN
def fC (l:List eK):Option (List kl):=
 if 300 < l.length then none else(gx l l 0 ([],[])).bind fun st=>if st.2=[]then some st.1 else none
def mI (l:List eK):List UInt8:=(l.map ik).flatten++[11]
def hU (op deep:Int):Int:=if op=11 then deep - 1 else if jS op then deep+1 else deep
def kt:Nat ->List eK ->Int ->List UInt8 ->Option (List eK × List UInt8)
 | 0,_,_,_=>none
 | f+1,acc,deep,l=>(gu l).bind fun x=>
  if hU x.1.op deep < 0 then(if(fC acc).isSome then some (acc,x.2)else none)else if 300 < acc.length+1 then none else kt f (acc++[x.1]) (hU x.1.op deep) x.2
def kO (l:List UInt8):Option (List eK × List UInt8):=kt 301 [] 0 l
theorem pO {l:List eK} {i:Nat} {x:eK} {st NN:List kl × List Nat} (h:gf l i x st=some NN):0 <=hU x.op st.2.length/\(NN.2.length:Int)=hU x.op st.2.length:=by
 unfold gf at h;unfold hU;by_cases h1:jS x.op=true
 ·rw [aJ h1]at h
  have h11:x.op≠11:=by
   intro e;rw [e]at h1;simp [jS]at h1
  rw [aC h11,aJ h1];split at h
  ·cases h
  ·injection h with h
   subst h;simp;omega
 rw [aC h1]at h;by_cases h2:x.op≠5/\x.op≠11
 ·rw [aJ h2]at h
  injection h with h;subst h;rw [aC h2.2,aC h1];exact⟨by omega,rfl⟩
 rw [aC h2]at h;cases hg:st.2.getLast? with
 | none=>rw [hg]at h;cases h
 | some k=>
  rw [hg]at h;have hl:1 <=st.2.length:=by
   rcases aZ st.2.length with g | g
   ·rw [aH g]at hg
    simp at hg
   ·exact g
  simp only at h;cases hb:st.1[k]? with
  | none=>rw [hb]at h;cases h
  | some b=>
   rw [hb]at h;simp only at h;by_cases h3:x.op=11
   ·rw [aJ h3]at h
    injection h with h;subst h;rw [aJ h3];simp only [dr];omega
   ·rw [aC h3]at h
    rw [aC h3,aC h1];cases hy:l[b.pos.toNat]? with
    | none=>rw [hy]at h;cases h
    | some y=>
     rw [hy]at h;simp only at h;split at h
     ·cases h
     ·injection h with h
      subst h;exact⟨by omega,rfl⟩
theorem A4 (r:List UInt8):gu (11::r)=some (⟨11,0,0,[]⟩,r):=by
 have h:=ox ⟨11,0,0,[]⟩ r (by decide) ⟨⟨by decide,by decide⟩,⟨by decide,by decide⟩,⟨by decide,by decide⟩,by simp⟩;have e:ik ⟨11,0,0,[]⟩=[11]:=by decide
 rw [e]at h;exact h
theorem uS {body:List eK} (hm:(fC body).isSome=true) (hl:body.length <=300) (r:List UInt8):∀(rest acc:List eK) (i:Nat) (st NN:List kl × List Nat) (f:Nat),acc++rest=body ->gx body rest i st=some NN ->NN.2=[] ->
  (∀x∈rest,x.may/\x.ok) ->acc.length+f=301 ->kt f acc st.2.length ((rest.map ik).flatten++11::r)=some (body,r)
 | [],acc,i,st,NN,f,ha,hg,he,_,hf=>by
  rw [bO]at ha;subst ha;injection hg with hg;subst hg;obtain⟨f,rfl⟩:∃f',f=f'+1:=⟨f - 1,by omega⟩;rw [cS,List.flatten_nil,bL,kt,A4];simp only [aw];rw [he,aJ (by simp [hU]),aJ hm]
 | x::rest,acc,i,st,NN,f,ha,hg,he,hx,hf=>by
  have hla:acc.length+rest.length+1 <=300:=by
   rw [<- ha]at hl;simp at hl;omega
  obtain⟨f,rfl⟩:∃f',f=f'+1:=⟨f - 1,by omega⟩;rw [gx]at hg;cases hs:gf body i x st with
  | none=>rw [hs]at hg;cases hg
  | some QK=>
   rw [hs]at hg;simp only [aw]at hg;obtain⟨d0,d1⟩:=pO hs;obtain⟨m1,m2⟩:=hx x (by simp);rw [bA,bS,aP,kt,ox x _ m1 m2];simp only [aw];rw [aC (by omega),aC (by omega), <- d1];exact uS hm hl r rest (acc++[x]) (i+1) QK NN f (by simp [ha]) hg he (fun y hy=>hx y (by simp [hy])) (by simp;omega)
theorem Cg (l:List eK) (r:List UInt8) (hm:(fC l).isSome=true) (hx:∀x∈l,x.may/\x.ok):kO (mI l++r)=some (l,r):=by
 have hm':=hm;unfold fC at hm;split at hm
 ·cases hm
 ·rename_i hl
  cases hg:gx l l 0 ([],[])with
  | none=>rw [hg]at hm;cases hm
  | some st=>
   rw [hg]at hm;simp only [aw]at hm;split at hm
   ·rename_i he
    have:=uS hm' (by omega) r l [] 0 ([],[]) st 301 rfl hg he hx rfl;rw [kO,mI,aP];exact this
   ·cases hm
abbrev iU (α:Type):=List UInt8 ->Option (α × List UInt8)
def fU:iU Nat:=fun l=>if(ib 32 l).2.2=0 then some ((ib 32 l).1,l.drop (ib 32 l).2.1)else none
theorem kV (n:Nat) (r:List UInt8) (h:n < 4294967296):fU (eP n++r)=some (n,r):=by
 unfold fU;rw [uF n r h];simp
def eZ:iU UInt8
 | []=>none
 | c::l=>some (c,l)
def mv:iU (List UInt8):=fun l=>(fU l).bind fun n=>if n.2.length < n.1 then none else some (n.2.take n.1,n.2.drop n.1)
theorem yF (b r:List UInt8) (h:b.length < 4294967296):mv (eP b.length++(b++r))=some (b,r):=by
 unfold mv;rw [kV _ _ h];simp only [aw];rw [aC (by simp)];simp
def rV {α:Type} (get:iU α):Nat ->iU (List α)
 | 0,l=>some ([],l)
 | n+1,l=>(get l).bind fun x=>(rV get n x.2).bind fun y=>some (x.1::y.1,y.2)
def fk {α:Type} (get:iU α):iU (List α):=fun l=>(fU l).bind fun n=>rV get n.1 n.2
def eU {α:Type} (put:α ->List UInt8) (l:List α):List UInt8:=eP l.length++(l.map put).flatten
theorem yN {α:Type} {get:iU α} {put:α ->List UInt8}:∀(l:List α) (r:List UInt8),(∀x∈l,∀r,get (put x++r)=some (x,r)) ->rV get l.length ((l.map put).flatten++r)=some (l,r)
 | [],r,_=>rfl
 | x::l,r,h=>by
  rw [bA,bS,aP,aI,rV,h x (by simp)];simp only [aw,yN l r (fun y hy=>h y (by simp [hy]))]
theorem nK {α:Type} {get:iU α} {put:α ->List UInt8} (l:List α) (r:List UInt8) (hl:l.length < 4294967296) (h:∀x∈l,∀r,get (put x++r)=some (x,r)):fk get (eU put l++r)=some (l,r):=by
 unfold fk eU;rw [aP,kV _ _ hl];exact yN l r h
def kindOk (k:Int):Prop:=k=1\/k=2
instance (k:Int):Decidable (kindOk k):=by unfold kindOk;infer_instance
def ji (k:Int):List UInt8:=[if k=1 then 0x7f else 0x7e]
def gJ:iU Int
 | 0x7f::l=>some (1,l)
 | 0x7e::l=>some (2,l)
 | _=>none
theorem oz {k:Int} (h:kindOk k) (r:List UInt8):gJ (ji k++r)=some (k,r):=by
 rcases h with rfl | rfl <;>rfl
def oK (s:ByteArray):List UInt8:=eP s.data.toList.length++s.data.toList
def jB:iU ByteArray:=fun l=>(mv l).bind fun x=>some (bs x.1,x.2)
theorem rX (s:ByteArray) (r:List UInt8) (h:s.data.toList.length < 4294967296):jB (oK s++r)=some (s,r):=by
 unfold jB oK;rw [aP,yF _ _ h];obtain⟨⟨l⟩⟩:=s;rfl
def ma (v:fa):List UInt8:=ik ⟨if v.kind=2 then 66 else 65,v.n,0,[]⟩++[11]
def gG:iU fa:=fun l=>(gu l).bind fun x=>if x.1.op=65\/x.1.op=66 then(eZ x.2).bind fun c=>some (⟨if x.1.op=66 then 2 else 1,x.1.a⟩,c.2)else none
theorem xN:iI 0:=⟨by decide,by decide⟩
theorem Ik (n:Int):eK.may ⟨66,n,0,[]⟩:=⟨fun _=>rfl,fun _=>rfl,by
 right;right;right;right;right;right;right;right
 show fJ 66=9
 decide⟩
theorem Im {n:Int} (h1: -2147483648 <=n) (h2:n <=2147483647):eK.may ⟨65,n,0,[]⟩:=⟨fun _=>rfl,fun _=>rfl,by
 right;right;right;right;right;right;right;left
 exact⟨by show fJ 65=8;decide,h1,h2⟩⟩
theorem s8 {v:fa} (hm:v.may) (ho:v.ok) (r:List UInt8):gG (ma v++r)=some (v,r):=by
 obtain⟨k,n⟩:=v;have h66:iI 66:=⟨by decide,by decide⟩;have h65:iI 65:=⟨by decide,by decide⟩;unfold gG ma;rcases hm with hk | ⟨hk,h1,h2⟩
 ·simp only at hk
  subst hk;have e:gu (ik ⟨66,n,0,[]⟩++([11]++r))=some (⟨66,n,0,[]⟩,[11]++r):=ox ⟨66,n,0,[]⟩ _ (Ik n) ⟨h66,ho.2,xN,by simp⟩;rw [aJ rfl,aP,e];rfl
 ·simp only at hk h1 h2
  subst hk;have e:gu (ik ⟨65,n,0,[]⟩++([11]++r))=some (⟨65,n,0,[]⟩,[11]++r):=ox ⟨65,n,0,[]⟩ _ (Im h1 h2) ⟨h65,ho.2,xN,by simp⟩;rw [aC (by show ¬ (1:Int)=2;decide),aP,e];rfl
def mb (n:Int):Prop:= -2147483648 <=n/\n <=2147483647
instance (n:Int):Decidable (mb n):=by unfold mb;infer_instance
def nw (n:Int):List UInt8:=0::ma ⟨1,n⟩
def jk:iU Int:=fun l=>(eZ l).bind fun c=>(gG c.2).bind fun v=>some (v.1.n,v.2)
theorem tZ {n:Int} (h:mb n) (r:List UInt8):jk (nw n++r)=some (n,r):=by
 unfold jk nw;rw [bI];simp only [eZ,aw];rw [s8 (v:=⟨1,n⟩) (.inr ⟨rfl,h.1,h.2⟩) ⟨⟨by show(-9223372036854775808:Int) <=1;decide,by show(1:Int) <=9223372036854775807;decide⟩,by have:=h.1;show(-9223372036854775808:Int) <=n;omega,by have:=h.2;show n <=(9223372036854775807:Int);omega⟩];rfl
def gE (x:fP):List UInt8:=if x.max < 0 then 0::eP x.min.toNat else 1::(eP x.min.toNat++eP x.max.toNat)
def gg:iU fP:=fun l=>(eZ l).bind fun c=>(fU c.2).bind fun n=>if c.1=0 then some (⟨true,n.1,-1⟩,n.2)else(fU n.2).bind fun m=>some (⟨true,n.1,m.1⟩,m.2)
def fP.may (least fi:Int) (x:fP):Prop:=if x.has=true then(0 <=x.min/\x.min <=least)/\ -1 <=x.max/\x.max <=fi else x.min=0/\x.max=0
instance (least fi:Int) (x:fP):Decidable (x.may least fi):=by unfold fP.may;infer_instance
theorem zC {least fi:Int} {x:fP} (hh:x.has=true) (hm:x.may least fi) (hl:least <=100000) (hmo:fi <=100000) (r:List UInt8):gg (gE x++r)=some (x,r):=by
 obtain⟨has,mn,mx⟩:=x;simp only at hh;subst hh;unfold fP.may at hm;rw [aJ rfl]at hm;obtain⟨⟨h1,h2⟩,h3,h4⟩:=hm;simp only at h1 h2 h3 h4;have e1:((mn.toNat:Nat):Int)=mn:=by omega
 unfold gg gE;by_cases hx:mx < 0
 ·rw [aJ hx,bI]
  simp only [eZ,aw];rw [kV _ _ (by omega)];have:mx= -1:=by omega
  simp [e1,this]
 ·rw [aC hx,bI,aP]
  simp only [eZ,aw];rw [kV _ _ (by omega)];simp only [aw];rw [aC (by decide),kV _ _ (by omega)];have e2:((mx.toNat:Nat):Int)=mx:=by omega
  simp [e1,e2]
def gz:List Int ->List (Nat × Int)
 | []=>[]
 | k::l=>match gz l with
  | []=>[(1,k)]
  | (n,k')::t=>if k=k' then(n+1,k')::t else(1,k)::(n,k')::t
def iQ (l:List (Nat × Int)):List Int:=(l.map fun x=>List.replicate x.1 x.2).flatten
theorem su:∀l:List Int,iQ (gz l)=l
 | []=>rfl
 | k::l=>by
  have ih:=su l;rw [gz];cases hr:gz l with
  | nil=>
   rw [hr]at ih;simp only [iQ]at ih⊢;simp at ih⊢;exact ih
  | cons x t=>
   obtain⟨n,k'⟩:=x;rw [hr]at ih;simp only;split
   ·rename_i h
    subst h;simp only [iQ,bA,bS]at ih⊢;rw [List.replicate_succ,bI,ih]
   ·simp only [iQ,bA,bS]at ih⊢
    rw [ih];rfl
theorem qH:∀(l:List Int) (x:Nat × Int),x∈gz l ->x.2∈l/\x.1 <=l.length
 | [],x,h=>by simp [gz]at h
 | k::l,x,h=>by
  have ih:=qH l;rw [gz]at h;cases hr:gz l with
  | nil=>
   rw [hr]at h;simp at h;subst h;simp
  | cons y t=>
   obtain⟨n,k'⟩:=y;rw [hr]at h ih;simp only at h;split at h
   ·rename_i hk
    rcases bB.1 h with rfl | h
    ·have:=ih (n,k') (by simp)
     exact⟨by simp [this.1],by simp only [aI];have:=this.2;simp only at this;omega⟩
    ·have:=ih x (by simp [h])
     exact⟨by simp [this.1],by simp only [aI];omega⟩
   ·rcases bB.1 h with rfl | h
    ·simp
    ·have:=ih x h
     exact⟨by simp [this.1],by simp only [aI];omega⟩
theorem pe (l:List Int):(gz l).length <=l.length:=by
 induction l with
 | nil=>simp [gz]
 | cons k l ih=>
  rw [gz];cases hr:gz l with
  | nil=>simp
  | cons y t=>
   obtain⟨n,k'⟩:=y;rw [hr]at ih;simp only;split <;>simp only [aI]at ih⊢ <;>omega
def xz (x:Nat × Int):List UInt8:=eP x.1++ji x.2
def lX:iU (Nat × Int):=fun l=>(fU l).bind fun n=>(gJ n.2).bind fun k=>if 32 < n.1 then none else some ((n.1,k.1),k.2)
def kn (l:List Int):List UInt8:=eU xz (gz l)
def jC:iU (List Int):=fun l=>(fk lX l).bind fun x=>some (iQ x.1,x.2)
theorem yC {l:List Int} (hl:l.length <=32) (hk:∀k∈l,kindOk k) (r:List UInt8):jC (kn l++r)=some (l,r):=by
 unfold jC kn;have:=pe l;rw [nK (put:=xz) (gz l) r (by omega) (fun x hx r=>by
  obtain⟨h1,h2⟩:=qH l x hx;unfold lX xz;rw [aP,kV _ _ (by omega)];simp only [aw];rw [oz (hk _ h1)];simp only [aw];rw [aC (by omega)])]
 simp [su]
def gF.may (x:gF):Prop:=(fC x.body).isSome=true/\(x.locals.length <=32/\∀k∈x.locals,kindOk k)/\x.body.length <=300/\∀y∈x.body,y.may
def lY (x:gF):List UInt8:=kn x.locals++mI x.body
def ir (x:gF):List UInt8:=eP (lY x).length++lY x
def lJ:iU gF:=fun l=>(fU l).bind fun n=>(jC n.2).bind fun k=>(kO k.2).bind fun b=>some (⟨k.1,b.1⟩,b.2)
theorem Cl {x:gF} (hm:x.may) (ho:∀y∈x.body,y.ok) (hs:(lY x).length < 4294967296) (r:List UInt8):lJ (ir x++r)=some (x,r):=by
 obtain⟨m1,⟨m2,m3⟩,m4,m5⟩:=hm;unfold lJ ir;rw [aP,kV _ _ hs];simp only [aw,lY];rw [aP,yC m2 m3];simp only [aw];rw [Cg _ _ m1 (fun y hy=>⟨m5 y hy,ho y hy⟩)];rfl
def jV (s:ByteArray):Prop:=s.data.toList≠[]/\s.data.toList.length <=16/\∀c∈s.data.toList,32 <=c.toNat/\c.toNat <=126
instance (s:ByteArray):Decidable (jV s):=by unfold jV;infer_instance
def kI (t:gr):List UInt8:=0x60::(eU ji t.params++eU ji t.results)
def oN:iU gr:=fun l=>(eZ l).bind fun c=>(fk gJ c.2).bind fun p=>(fk gJ p.2).bind fun q=>some (⟨p.1,q.1⟩,q.2)
def gr.may (t:gr):Prop:=(t.params.length <=32/\∀k∈t.params,kindOk k)/\t.results.length <=1/\∀k∈t.results,kindOk k
theorem CM {t:gr} (h:t.may) (r:List UInt8):oN (kI t++r)=some (t,r):=by
 obtain⟨⟨h1,h2⟩,h3,h4⟩:=h;unfold oN kI;rw [bI,aP];simp only [eZ,aw];rw [nK _ _ (by omega) (fun k hk r=>oz (h2 k hk) r)];simp only [aw];rw [nK _ _ (by omega) (fun k hk r=>oz (h4 k hk) r)];rfl
def rS (n:Int):List UInt8:=eP n.toNat
def uV:iU Int:=fun l=>(fU l).bind fun n=>some ((n.1:Int),n.2)
theorem sO {n:Int} (h:fV n) (r:List UInt8):uV (rS n++r)=some (n,r):=by
 obtain⟨h1,h2⟩:=h;unfold uV rS;rw [kV _ _ (by omega)];have:((n.toNat:Nat):Int)=n:=by omega
 simp [this]
def nA (x:jh):List UInt8:=oK x.mod++(oK x.name++(0::rS x.type))
def tH:iU jh:=fun l=>(jB l).bind fun a=>(jB a.2).bind fun b=>(eZ b.2).bind fun c=>(uV c.2).bind fun n=>some (⟨a.1,b.1,n.1⟩,n.2)
def jh.may (x:jh):Prop:=jV x.mod/\jV x.name/\fV x.type
theorem DP {x:jh} (h:x.may) (r:List UInt8):tH (nA x++r)=some (x,r):=by
 obtain⟨⟨_,h1,_⟩,⟨_,h2,_⟩,h3⟩:=h;unfold tH nA;rw [aP,rX _ _ (by omega)];simp only [aw];rw [aP,rX _ _ (by omega)];simp only [aw,bI,eZ];rw [sO h3];rfl
def jj (x:fP):List UInt8:=0x70::gE x
def kM:iU fP:=fun l=>(eZ l).bind fun c=>gg c.2
def kE (x:ja):List UInt8:=ji x.init.kind++((if x.isVar=true then 1 else 0)::ma x.init)
def o9:iU ja:=fun l=>(gJ l).bind fun k=>(eZ k.2).bind fun c=>(gG c.2).bind fun v=>some (⟨c.1 !=0,v.1⟩,v.2)
theorem Dh {x:ja} (h:x.init.may) (ho:x.init.ok) (r:List UInt8):o9 (kE x++r)=some (x,r):=by
 obtain⟨v,i⟩:=x;have hk:kindOk i.kind:=by
  rcases h with h | ⟨h,_⟩
  ·exact .inr h
  ·exact .inl h
 unfold o9 kE;rw [aP,oz hk];simp only [aw,bI,eZ];rw [s8 h ho];cases v <;>rfl
def nR (x:iC):List UInt8:=oK x.name++(0::rS x.func)
def tG:iU iC:=fun l=>(jB l).bind fun a=>(eZ a.2).bind fun c=>(uV c.2).bind fun n=>some (⟨a.1,n.1⟩,n.2)
def iC.may (x:iC):Prop:=jV x.name/\fV x.func
theorem F3 {x:iC} (h:x.may) (r:List UInt8):tG (nR x++r)=some (x,r):=by
 obtain⟨⟨_,h1,_⟩,h3⟩:=h;unfold tG nR;rw [aP,rX _ _ (by omega)];simp only [aw,bI,eZ];rw [sO h3];rfl
def kT (x:iS):List UInt8:=nw x.off++eU rS x.funcs
def pk:iU iS:=fun l=>(jk l).bind fun n=>(fk uV n.2).bind fun t=>some (⟨n.1,t.1⟩,t.2)
def iS.may (x:iS):Prop:=mb x.off/\x.funcs.length <=50/\∀n∈x.funcs,fV n
theorem C7 {x:iS} (h:x.may) (r:List UInt8):pk (kT x++r)=some (x,r):=by
 obtain⟨h1,h2,h3⟩:=h;unfold pk kT;rw [aP,tZ h1];simp only [aw];rw [nK _ _ (by omega) (fun k hk r=>sO (h3 k hk) r)];rfl
def nP (x:gp):List UInt8:=nw x.off++(eP x.bytes.length++x.bytes)
def th:iU gp:=fun l=>(jk l).bind fun n=>(mv n.2).bind fun b=>some (⟨n.1,b.1⟩,b.2)
def gp.may (x:gp):Prop:=mb x.off/\x.bytes.length <=1000
theorem FE {x:gp} (h:x.may) (r:List UInt8):th (nP x++r)=some (x,r):=by
 obtain⟨h1,h2⟩:=h;unfold th nP;rw [aP,tZ h1];simp only [aw];rw [aP,yF _ _ (by omega)];rfl
def fE {α:Type} (no:UInt8) (put:α ->List UInt8) (l:List α):List UInt8:=match l with
 | []=>[]
 | _=>no::(eP (eU put l).length++eU put l)
def oneOf (x:fP):List fP:=if x.has=true then [x]else []
def fA:List UInt8:=[0,0x61,0x73,0x6d,1,0,0,0]
def ph (m:ez):List UInt8:=
 fE 1 kI m.types++(fE 2 nA m.imports++(fE 3 rS m.funcs++(fE 4 jj (oneOf m.table)++(fE 5 gE (oneOf m.mem)++(fE 6 kE m.globals++(fE 7 nR m.ea++(fE 9 kT m.elems++(fE 10 ir m.ej++fE 11 nP m.eC))))))))
def fB (m:ez):List UInt8:=fA++ph m
def m0:ez:=⟨[],[],[],⟨false,0,0⟩,⟨false,0,0⟩,[],[],[],[],[]⟩
def jP (l:List fP):fP:=match l with
 | []=>⟨false,0,0⟩
 | x::_=>x
def jL (no:Nat) (m:ez) (l:List UInt8):Option (ez × List UInt8):=match no with
 | 1=>(fk oN l).bind fun x=>some ({m with types:=x.1},x.2)
 | 2=>(fk tH l).bind fun x=>some ({m with imports:=x.1},x.2)
 | 3=>(fk uV l).bind fun x=>some ({m with funcs:=x.1},x.2)
 | 4=>(fk kM l).bind fun x=>some ({m with table:=jP x.1},x.2)
 | 5=>(fk gg l).bind fun x=>some ({m with mem:=jP x.1},x.2)
 | 6=>(fk o9 l).bind fun x=>some ({m with globals:=x.1},x.2)
 | 7=>(fk tG l).bind fun x=>some ({m with ea:=x.1},x.2)
 | 9=>(fk pk l).bind fun x=>some ({m with elems:=x.1},x.2)
 | 10=>(fk lJ l).bind fun x=>some ({m with ej:=x.1},x.2)
 | 11=>(fk th l).bind fun x=>some ({m with eC:=x.1},x.2)
 | _=>none
def nQ:Nat ->ez ->List UInt8 ->Option ez
 | 0,_,_=>none
 | _+1,m,[]=>some m
 | f+1,m,no::l=>(fU l).bind fun k=>(jL no.toNat m k.2).bind fun x=>nQ f x.1 x.2
def mw (l:List UInt8):Option ez:=if 8000 < l.length then none else if l.take 8=fA then nQ (l.length+1) m0 (l.drop 8)else none
theorem kj {α:Type} {no:UInt8} {put:α ->List UInt8} {get:iU α} {l:List α} {m m':ez} (upd:List α ->ez) (NW:∀b,jL no.toNat m b=(fk get b).bind fun x=>some (upd x.1,x.2)) (h0:l=[] ->m'=m) (h1:upd l=m')
  (hp:∀x∈l,∀r,get (put x++r)=some (x,r)) (hl:l.length < 4294967296) (hs:(eU put l).length < 4294967296) (f:Nat) (r:List UInt8) (hf:(fE no put l++r).length < f):
  ∃f',r.length < f'/\nQ f m (fE no put l++r)=nQ f' m' r:=by
 cases l with
 | nil=>
  rw [h0 rfl];exact⟨f,by simpa [fE] using hf,rfl⟩
 | cons x l=>
  obtain⟨f,rfl⟩:∃f',f=f'+1:=⟨f - 1,by omega⟩;refine⟨f,?_,?_⟩
  ·simp only [fE,ah,aI]at hf
   omega
  ·simp only [fE,bI,aP]
   rw [nQ,kV _ _ hs];simp only [aw];rw [NW,nK _ _ hl hp];simp only [aw];rw [h1]
def ez.Gz (m:ez):Prop:=
 (∀x∈m.types,x.may)/\(∀x∈m.imports,x.may)/\(∀n∈m.funcs,fV n)/\m.table.may 16 1000/\m.mem.may 16 65536/\(∀x∈m.globals,x.init.may)/\(∀x∈m.ea,x.may)/\(∀x∈m.elems,x.may)/\(∀x∈m.ej,x.may)/\∀x∈m.eC,x.may
theorem zR {α:Type} (no:UInt8) (put:α ->List UInt8) (l:List α):l=[]\/(eU put l).length < (fE no put l).length:=by
 cases l with
 | nil=>exact .inl rfl
 | cons x l=>
  right
  simp only [fE,aI,ah];omega
theorem jw {α:Type} (no:UInt8) (put:α ->List UInt8) (l:List α) {n:Nat} (h:(fE no put l).length <=n) (hn:n <=8000):(eU put l).length < 4294967296:=by
 rcases zR no put l with h1 | h1
 ·rw [h1]
  have:=(eF 0).2;simp only [eU,aK,cS,List.flatten_nil,bO];omega
 ·omega
theorem lF {α:Type} (put:α ->List UInt8):∀l:List α,(∀x∈l,1 <=(put x).length) ->l.length <=(eU put l).length:=by
 intro l h;have:∀l:List α,(∀x∈l,1 <=(put x).length) ->l.length <=((l.map put).flatten).length:=by
  intro l
  induction l with
  | nil=>simp
  | cons x l ih=>
   intro h;have h1:=h x (by simp);have h2:=ih (fun y hy=>h y (by simp [hy]));simp only [bA,bS,ah,aI];omega
 have:=this l h;simp only [eU,ah];omega
theorem z8 {x:gF} {m:ez} (hx:x∈m.ej) (hl:(fB m).length <=8000):(lY x).length < 4294967296:=by
 have h1:(ir x).length <=((m.ej.map ir).flatten).length:=by
  obtain⟨a,b,PB⟩:=List.append_of_mem hx;rw [PB];simp only [cn,bA,List.flatten_append,bS,ah];omega
 rcases zR 10 ir m.ej with h2 | h2
 ·rw [h2]at hx
  simp at hx
 ·simp only [fB,ph,ah]at hl
  simp only [eU,ah]at h2;simp only [ir,ah]at h1;omega
def mask (S:Nat ->Bool) (w:World):World:={w with heap:=w.heap.mapIdx fun i o=>if S i=true then .cells #[] 0 else o}
theorem gY (S:Nat ->Bool) (w:World):(mask S w).heap.size=w.heap.size:=by simp [mask]
theorem jt {S:Nat ->Bool} (w:World) {k:Nat} (h:S k=false):(mask S w).heap[k]?=w.heap[k]?:=by
 simp [mask,h]
theorem pd {S:Nat ->Bool} (w:World) {k:Nat} (h:S k=true):(mask S w).heap[k]?=(w.heap[k]?).map fun _=>Obj.cells #[] 0:=by
 simp [mask,h]
theorem gl {S:Nat ->Bool} {w:World} {b i:Nat} {v:Value} (h:(mask S w).cell? ⟨b,i,none⟩=some v):S b=false/\w.cell? ⟨b,i,none⟩=some v:=by
 cases hs:S b with
 | true=>
  exfalso;unfold World.cell? at h;rw [pd w hs]at h;cases hg:w.heap[b]? with
  | none=>rw [hg]at h;simp at h
  | some o=>rw [hg]at h;simp at h
 | false=>
  refine⟨rfl,?_⟩;unfold World.cell? at h⊢;rw [jt w hs]at h;exact h
theorem dU.mask {P:Nat ->Prop} {S:Nat ->Bool} {w w':World} (h:dU P w w') (hs:∀k,P k ->S k=true):Below (mask S w).heap.size (mask S w) (mask S w'):=by
 refine⟨h.os,h.tape,h.output,by rw [gY,gY];exact h.size,fun k hk=>?_⟩;rw [gY]at hk;cases hb:S k with
 | true=>
  rw [pd _ hb,pd _ hb,Array.getElem?_eq_getElem hk,Array.getElem?_eq_getElem (bH hk h.size)];rfl
 | false=>
  rw [jt _ hb,jt _ hb];exact h.block k hk (fun g=>by rw [hs k g]at hb;cases hb)
theorem Ay {S:Nat ->Bool} {w w':World} (h:Below w.heap.size w w'):Below (mask S w).heap.size (mask S w) (mask S w'):=
 (dU.dW (S:=fun _=>False) h).mask (fun _ h=>h.elim)
theorem eg.fT {α:Type} {k:Nat} {enc:α ->List Value} {S:Nat ->Bool} {w:World} {v:Value} {l:List α} (h:eg k enc (mask S w) v l):eg k enc w v l:=by
 obtain⟨a,cap,hv,h1,h2,h3⟩:=h;refine⟨a,cap,hv,h1,h2,fun i x hx=>?_⟩;obtain⟨b,off,ha,KC,hc⟩:=h3 i x hx;exact⟨b,off,ha,by rw [gY]at KC;exact KC,fun j u hu=>(gl (hc j u hu)).2⟩
theorem ee.fT {α β:Type} {k:Nat} {enc:α × β ->List Value} {inner:World ->α ->β ->Prop} {S:Nat ->Bool} {w:World} {v:Value} {l:List α} (h:ee k enc inner (mask S w) v l) (hi:∀x u,inner (mask S w) x u ->inner w x u):ee k enc inner w v l:=by
 obtain⟨us,h1,h2,h3⟩:=h;exact⟨us,h1,h2.fT,fun i x u hx hu=>hi x u (h3 i x u hx hu)⟩
theorem eJ.fT {S:Nat ->Bool} {w:World} {v:Value} {l:List UInt8} (h:eJ (mask S w) v l):eJ w v l:=by
 obtain⟨a,cap,hv,h1,h2,h3⟩:=h;refine⟨a,cap,hv,h1,h2,fun i x hx=>?_⟩;obtain⟨b,off,ha,hc⟩:=h3 i x hx;exact⟨b,off,ha,(gl hc).2⟩
theorem dT.mask {α:Type} {t:TypeId} {k:Nat} {enc:α ->List Value} {S:Nat ->Bool} {w:World} {B:Nat} {v:Value} {l:List α} (h:dT t k enc w B v l) (hs:∀b,B <=b ->S b=false):dT t k enc (mask S w) B v l:=by
 obtain⟨hl,hv | ⟨g,cap,cur,hv,hb,hg,rest⟩⟩:=h
 ·exact⟨hl, .inl hv⟩
 ·exact⟨hl, .inr ⟨g,cap,cur,hv,hb,by rw [jt w (hs g hb)];exact hg,rest⟩⟩
theorem dX.mask {S:Nat ->Bool} {w:World} {B:Nat} {v:Value} {l:List UInt8} (h:dX w B v l) (hs:∀b,B <=b ->S b=false):dX (mask S w) B v l:=by
 obtain⟨hl,hv | ⟨g,cap,cur,hv,hb,hg,rest⟩⟩:=h
 ·exact⟨hl, .inl hv⟩
 ·exact⟨hl, .inr ⟨g,cap,cur,hv,hb,by rw [jt w (hs g hb)];exact hg,rest⟩⟩
theorem gN.fT {S:Nat ->Bool} {w:World} {x:eK} {u:Value} (h:gN (mask S w) x u):gN w x u:=⟨h.1.fT,h.2⟩
theorem gd.fT {S:Nat ->Bool} {w:World} {v:Value} {l:List eK} (h:gd (mask S w) v l):gd w v l:=ee.fT h (fun _ _ h=>h.fT)
theorem gI.fT {S:Nat ->Bool} {w:World} {x:gr} {u:Value × Value} (h:gI (mask S w) x u):gI w x u:=⟨⟨h.1.1.fT,h.1.2.fT⟩,h.2⟩
theorem gW.fT {S:Nat ->Bool} {w:World} {x:iS} {u:Value} (h:gW (mask S w) x u):gW w x u:=⟨h.1.fT,h.2⟩
theorem gH.fT {S:Nat ->Bool} {w:World} {x:gF} {u:Value × Value} (h:gH (mask S w) x u):gH w x u:=⟨⟨h.1.1.fT,h.1.2.fT⟩,h.2⟩
theorem gq.fT {S:Nat ->Bool} {w:World} {x:gp} {u:Value} (h:gq (mask S w) x u):gq w x u:=⟨h.1.fT,h.2⟩
theorem ep.fT {S:Nat ->Bool} {w:World} {u:eD} {m:ez} (h:ep (mask S w) u m):ep w u m:=by
 obtain⟨h1,h2,h3,h4,h5,h6,h7,h8,h9⟩:=h;exact⟨ee.fT h1 (fun _ _ h=>h.fT),h2.fT,h3.fT,h4.fT,h5.fT,ee.fT h6 (fun _ _ h=>h.fT),ee.fT h7 (fun _ _ h=>h.fT),ee.fT h8 (fun _ _ h=>h.fT),h9⟩
abbrev fZ:=Option (List UInt8)
def fZ.len:fZ ->Nat
 | none=>0
 | some l=>l.length+1
def ei {α:Type} (get:iU α) (st:fZ):fZ:=(st.bind get).map (·.2)
def gU {α:Type} (get:iU α) (st:fZ) (x:α):Prop:=∀y,st.bind get=some y ->x=y.1
theorem mA {α:Type} (get:iU α) (x:α):gU get none x:=fun _ h=>by simp at h
def jZ {α β:Type} (a:iU α) (b:iU β):iU (α × β):=fun l=>(a l).bind fun x=>(b x.2).bind fun y=>some ((x.1,y.1),y.2)
def gR {α β:Type} (f:α ->β) (a:iU α):iU β:=fun l=>(a l).map fun x=>(f x.1,x.2)
theorem gP {α β:Type} (a:iU α) (b:iU β) (st:fZ):ei (jZ a b) st=ei b (ei a st):=by
 cases st with
 | none=>rfl
 | some l=>
  simp only [ei,jZ,aw];cases h:a l with
  | none=>rfl
  | some x=>cases h2:b x.2 <;>simp [h2]
theorem ig {α β:Type} {a:iU α} {b:iU β} {st:fZ} {x:α} {y:β} (h1:gU a st x) (h2:gU b (ei a st) y):gU (jZ a b) st (x,y):=by
 intro z hz;cases st with
 | none=>simp at hz
 | some l=>
  simp only [jZ,aw]at hz;cases h:a l with
  | none=>rw [h]at hz;simp at hz
  | some x'=>
   rw [h]at hz;simp only [aw]at hz;cases hb:b x'.2 with
   | none=>rw [hb]at hz;simp at hz
   | some y'=>
    rw [hb]at hz;simp only [aw,aX]at hz;have e1:=h1 x' (by simpa using h);have e2:=h2 y' (by simp [ei,h,hb]);rw [<- hz,e1,e2]
theorem fu {α β:Type} (f:α ->β) (a:iU α) (st:fZ):ei (gR f a) st=ei a st:=by
 cases st with
 | none=>rfl
 | some l=>
  simp only [ei,gR,aw];cases a l <;>rfl
theorem fD {α β:Type} {f:α ->β} {a:iU α} {st:fZ} {x:α} (h:gU a st x):gU (gR f a) st (f x):=by
 intro z hz;cases st with
 | none=>simp at hz
 | some l=>
  simp only [gR,aw]at hz;cases ha:a l with
  | none=>rw [ha]at hz;simp at hz
  | some y=>
   rw [ha]at hz;simp only [bE,aX]at hz;rw [<- hz,h y (by simpa using ha)]
def iM {α:Type} (get:iU α):Prop:=∀l y,get l=some y ->y.2.length < l.length
def oJ {α:Type} (get:iU α):Prop:=∀l y,get l=some y ->y.2.length <=l.length
theorem iM.lO {α:Type} {get:iU α} (h:iM get):oJ get:=fun l y hy=>Nat.le_of_lt (h l y hy)
theorem iM.seq {α β:Type} {a:iU α} {b:iU β} (ha:iM a) (hb:oJ b):iM (jZ a b):=by
 intro l y hy;simp only [jZ]at hy;cases h:a l with
 | none=>rw [h]at hy;simp at hy
 | some x=>
  rw [h]at hy;simp only [aw]at hy;cases h2:b x.2 with
  | none=>rw [h2]at hy;simp at hy
  | some z=>
   rw [h2]at hy;simp only [aw,aX]at hy;subst hy;exact Nat.lt_of_le_of_lt (hb _ _ h2) (ha _ _ h)
theorem iM.map {α β:Type} {f:α ->β} {a:iU α} (ha:iM a):iM (gR f a):=by
 intro l y hy;simp only [gR]at hy;cases h:a l with
 | none=>rw [h]at hy;simp at hy
 | some x=>
  rw [h]at hy;simp only [bE,aX]at hy;subst hy;exact ha _ _ h
theorem oJ.len {α:Type} {get:iU α} (h:oJ get) (st:fZ):(ei get st).len <=st.len:=by
 cases st with
 | none=>simp [ei,fZ.len]
 | some l=>
  simp only [ei,aw];cases hg:get l with
  | none=>simp [fZ.len]
  | some y=>have:=h l y hg;simp only [bE,fZ.len];omega
theorem iM.len {α:Type} {get:iU α} (h:iM get) (l:List UInt8):(ei get (some l)).len < fZ.len (some l):=by
 simp only [ei,aw];cases hg:get l with
 | none=>simp [fZ.len]
 | some y=>have:=h l y hg;simp only [bE,fZ.len];omega
theorem kS:iM fU:=by
 intro l y hy;unfold fU at hy;split at hy
 ·rename_i h
  simp only [aX]at hy;subst hy;unfold ib at h;split at h
  ·rename_i h1
   exact absurd h h1
  ·rename_i h1
   have h2:=dC.1 h1;obtain⟨_,_,k1,k2,_⟩:=jf h2;have h3:(ib 32 l).2.1=(fc 32 l).1:=by
    unfold ib;rw [aC h1];split
    ·rfl
    ·rename_i h4
     rw [aC h4]at h;cases h
   simp only [bq,h3];omega
 ·cases hy
theorem kF:iM eZ:=by
 intro l y hy;cases l with
 | nil=>cases hy
 | cons c l=>simp only [eZ,aX]at hy;subst hy;simp
theorem lz:iM gJ:=by
 intro l y hy;unfold gJ at hy;split at hy
 ·simp only [aX]at hy;subst hy;simp
 ·simp only [aX]at hy;subst hy;simp
 ·cases hy
theorem y9 {α:Type} {get:iU α} (h:iM get):∀n,oJ (rV get n)
 | 0=>fun l y hy=>by simp only [rV,aX]at hy;subst hy;exact ag _
 | n+1=>fun l y hy=>by
  simp only [rV]at hy;cases hg:get l with
  | none=>rw [hg]at hy;simp at hy
  | some x=>
   rw [hg]at hy;simp only [aw]at hy;cases hr:rV get n x.2 with
   | none=>rw [hr]at hy;simp at hy
   | some z=>
    rw [hr]at hy;simp only [aw,aX]at hy;subst hy;exact aW (show z.2.length <=x.2.length from y9 h n _ _ hr) (Nat.le_of_lt (h _ _ hg))
theorem hI {α:Type} {get:iU α} (h:iM get):iM (fk get):=by
 intro l y hy;simp only [fk]at hy;cases hg:fU l with
 | none=>rw [hg]at hy;simp at hy
 | some x=>
  rw [hg]at hy;simp only [aw]at hy;exact Nat.lt_of_le_of_lt (y9 h _ _ _ hy) (kS _ _ hg)
theorem uI:oN=gR (fun x=>⟨x.2.1,x.2.2⟩) (jZ eZ (jZ (fk gJ) (fk gJ))):=by
 funext l
 simp only [oN,gR,jZ];cases h1:eZ l with
 | none=>rfl
 | some c=>
  simp only [aw];cases h2:fk gJ c.2 with
  | none=>rfl
  | some p=>
   simp only [aw];cases fk gJ p.2 <;>rfl
theorem xq:tH=gR (fun x=>⟨x.1,x.2.1,x.2.2.2⟩) (jZ jB (jZ jB (jZ eZ uV))):=by
 funext l
 simp only [tH,gR,jZ];cases h1:jB l with
 | none=>rfl
 | some a=>
  simp only [aw];cases h2:jB a.2 with
  | none=>rfl
  | some b=>
   simp only [aw];cases h3:eZ b.2 with
   | none=>rfl
   | some c=>
    simp only [aw];cases uV c.2 <;>rfl
theorem uR:o9=gR (fun x=>⟨x.2.1 !=0,x.2.2⟩) (jZ gJ (jZ eZ gG)):=by
 funext l
 simp only [o9,gR,jZ];cases h1:gJ l with
 | none=>rfl
 | some a=>
  simp only [aw];cases h2:eZ a.2 with
  | none=>rfl
  | some b=>
   simp only [aw];cases gG b.2 <;>rfl
theorem xK:tG=gR (fun x=>⟨x.1,x.2.2⟩) (jZ jB (jZ eZ uV)):=by
 funext l
 simp only [tG,gR,jZ];cases h1:jB l with
 | none=>rfl
 | some a=>
  simp only [aw];cases h2:eZ a.2 with
  | none=>rfl
  | some b=>
   simp only [aw];cases uV b.2 <;>rfl
theorem oZ:pk=gR (fun x=>⟨x.1,x.2⟩) (jZ jk (fk uV)):=by
 funext l
 simp only [pk,gR,jZ];cases h1:jk l with
 | none=>rfl
 | some a=>
  simp only [aw];cases fk uV a.2 <;>rfl
theorem xE:th=gR (fun x=>⟨x.1,x.2⟩) (jZ jk mv):=by
 funext l
 simp only [th,gR,jZ];cases h1:jk l with
 | none=>rfl
 | some a=>
  simp only [aw];cases mv a.2 <;>rfl
theorem qk:uV=gR (fun n:Nat=>(n:Int)) fU:=by
 funext l
 simp only [uV,gR];cases fU l <;>rfl
theorem tX:jB=gR bs mv:=by
 funext l
 simp only [jB,gR];cases mv l <;>rfl
theorem rR:jk=gR (fun x=>x.2.n) (jZ eZ gG):=by
 funext l
 simp only [jk,gR,jZ];cases h1:eZ l with
 | none=>rfl
 | some a=>
  simp only [aw];cases gG a.2 <;>rfl
theorem rN:kM=gR (fun x=>x.2) (jZ eZ gg):=by
 funext l
 simp only [kM,gR,jZ];cases h1:eZ l with
 | none=>rfl
 | some a=>
  simp only [aw];cases gg a.2 <;>rfl
structure IR where
 pos:Nat
 err:Int
def IR.rest (L:List UInt8) (s:IR):fZ:=if s.err=0 then some (L.drop s.pos)else none
def IR.byte (L:List UInt8) (s:IR):Nat × IR:=
 if s.err=0 then(match L[s.pos]? with | some c=>(c.toNat,⟨s.pos+1,0⟩) | none=>(0,⟨s.pos,2⟩))else(0,s)
def IR.jW (L:List UInt8) (lim:Nat) (s:IR):Nat × IR:=
 if s.err=0 then(if(ib 32 (L.drop s.pos)).2.2=0 then(if lim < (ib 32 (L.drop s.pos)).1 then(0,⟨s.pos,1⟩)else((ib 32 (L.drop s.pos)).1,⟨s.pos+(ib 32 (L.drop s.pos)).2.1,0⟩))else(0,⟨s.pos,(ib 32 (L.drop s.pos)).2.2⟩))else(0,s)
def IR.pZ (L:List UInt8) (bits:Int) (s:IR):Int × IR:=((jq bits (L.drop s.pos)).1,⟨s.pos+(jq bits (L.drop s.pos)).2.1,(jq bits (L.drop s.pos)).2.2⟩)
def IR.zero (L:List UInt8) (s:IR):IR:=if(s.byte L).1=0 then(s.byte L).2 else⟨(s.byte L).2.pos,1⟩
def IR.kind (L:List UInt8) (s:IR):Nat × IR:=
 if(s.byte L).1=64 then(0,(s.byte L).2)else if(s.byte L).1=127 then(1,(s.byte L).2)else if(s.byte L).1=126 then(2,(s.byte L).2)
 else(0,if(s.byte L).2.err=0 then⟨(s.byte L).2.pos,1⟩else(s.byte L).2)
def IR.ok (L:List UInt8) (s:IR):Prop:=s.pos <=L.length/\0 <=s.err/\s.err <=12
theorem IR.vG (L:List UInt8) (s:IR):(s.byte L).2.rest L=ei eZ (s.rest L):=by
 unfold IR.byte IR.rest;by_cases h:s.err=0
 ·simp only [h,cX]
  cases hc:L[s.pos]? with
  | none=>
   have:L.drop s.pos=[]:=by rw [List.drop_eq_nil_iff];exact List.getElem?_eq_none_iff.1 hc
   simp [this,ei,eZ]
  | some c=>
   obtain⟨KC,rfl⟩:=aN.1 hc;rw [cq KC];rfl
 ·simp [h,ei]
theorem IR.yS (L:List UInt8) (s:IR):∀y,(s.rest L).bind eZ=some y ->(s.byte L).1=y.1.toNat:=by
 unfold IR.byte IR.rest;intro y hy;by_cases h:s.err=0
 ·simp only [h,cX]at hy⊢
  cases hc:L[s.pos]? with
  | none=>
   have:L.drop s.pos=[]:=by rw [List.drop_eq_nil_iff];exact List.getElem?_eq_none_iff.1 hc
   rw [this]at hy;simp [eZ]at hy
  | some c=>
   obtain⟨KC,rfl⟩:=aN.1 hc;rw [cq KC]at hy;simp only [aw,eZ,aX]at hy;rw [<- hy]
 ·simp [h]at hy
theorem IR.xC {L:List UInt8} {s:IR} (h:s.ok L):(s.byte L).2.ok L:=by
 obtain⟨h1,h2,h3⟩:=h;unfold IR.byte;split
 ·split
  ·rename_i c hc
   have:=(aN.1 hc).1;exact⟨by simp only;omega,by simp,by simp⟩
  ·exact⟨h1,by simp,by simp⟩
 ·exact⟨h1,h2,h3⟩
theorem Ef (bits:Int) (l:List UInt8):0 <=(ib bits l).2.2/\(ib bits l).2.2 <=12:=by
 have hl:0 <=(fc bits l).2/\(fc bits l).2 <=12:=by
  unfold fc
  repeat' split
  all_goals simp
 unfold ib;split
 ·exact hl
 ·split <;>simp
theorem D9 (bits:Int) (l:List UInt8):0 <=(jq bits l).2.2/\(jq bits l).2.2 <=12:=by
 have hl:0 <=(fc bits l).2/\(fc bits l).2 <=12:=by
  unfold fc
  repeat' split
  all_goals simp
 unfold jq;split
 ·exact hl
 ·split <;>simp
theorem xL (bits:Int) (l:List UInt8):(ib bits l).2.1 <=l.length:=by
 unfold ib;split
 ·simp
 ·rename_i h
  obtain⟨_,_,k1,k2,_⟩:=jf (dC.1 h);split
  ·simp only;omega
  ·simp
theorem B7 (bits:Int) (l:List UInt8):(jq bits l).2.1 <=l.length:=by
 unfold jq;split
 ·simp
 ·rename_i h
  obtain⟨_,_,k1,k2,_⟩:=jf (dC.1 h);split
  ·simp only;omega
  ·simp
theorem IR.rn (L:List UInt8) (lim:Nat) (s:IR):(s.jW L lim).2.rest L=ei (lh lim) (s.rest L):=by
 unfold IR.jW IR.rest;by_cases h:s.err=0
 ·simp only [h,cX]
  by_cases h1:(ib 32 (L.drop s.pos)).2.2=0
  ·simp only [h1,cX]
   by_cases h2:lim < (ib 32 (L.drop s.pos)).1
   ·rw [aJ h2]
    simp [ei,lh,h1,Nat.not_le.2 h2]
   ·rw [aC h2]
    simp [ei,lh,h1,Nat.not_lt.1 h2,List.drop_drop]
  ·simp only [h1,if_false]
   simp [ei,lh,h1]
 ·simp [h,ei]
theorem IR.sV (L:List UInt8) (lim:Nat) (s:IR):gU (lh lim) (s.rest L) (s.jW L lim).1:=by
 unfold IR.jW IR.rest;intro y hy;by_cases h:s.err=0
 ·simp only [h,cX]at hy⊢
  simp only [aw,lh]at hy;split at hy
  ·rename_i h1
   simp only [h1.1,cX,aC (Nat.not_lt.2 h1.2)];simp only [aX]at hy;rw [<- hy]
  ·cases hy
 ·simp [h]at hy
theorem IR.IC {L:List UInt8} {lim:Nat} {s:IR} (h:s.ok L):(s.jW L lim).2.ok L:=by
 obtain⟨h1,h2,h3⟩:=h;have e1:=Ef 32 (L.drop s.pos);have e2:=xL 32 (L.drop s.pos);rw [bq]at e2;unfold IR.jW;split
 ·split
  ·split
   ·exact⟨h1,by simp,by simp⟩
   ·exact⟨by simp only;omega,by simp,by simp⟩
  ·exact⟨h1,e1⟩
 ·exact⟨h1,h2,h3⟩
theorem IR.Af (L:List UInt8) (lim:Nat) (s:IR):(s.jW L lim).1 <=lim:=by
 unfold IR.jW;split
 ·split
  ·split
   ·simp
   ·rename_i h;exact Nat.not_lt.1 h
  ·simp
 ·simp
theorem IR.yA (L:List UInt8) (bits:Int) (s:IR) (h:s.err=0):(s.pZ L bits).2.rest L=ei (Bh bits) (s.rest L):=by
 unfold IR.pZ IR.rest;simp only [h,cX];by_cases h1:(jq bits (L.drop s.pos)).2.2=0
 ·simp [h1,ei,Bh,List.drop_drop]
 ·simp [h1,ei,Bh]
theorem IR.BC (L:List UInt8) (bits:Int) (s:IR):gU (Bh bits) (s.rest L) (s.pZ L bits).1:=by
 unfold IR.pZ IR.rest;intro y hy;split at hy
 ·simp only [aw,Bh]at hy
  split at hy
  ·simp only [aX]at hy
   rw [<- hy]
  ·cases hy
 ·simp at hy
theorem IR.Iq {L:List UInt8} {bits:Int} {s:IR} (h:s.ok L):(s.pZ L bits).2.ok L:=by
 obtain⟨h1,h2,h3⟩:=h;have e1:=D9 bits (L.drop s.pos);have e2:=B7 bits (L.drop s.pos);rw [bq]at e2;exact⟨by simp only [IR.pZ];omega,e1⟩
theorem Ej (l:List UInt8):oU l=(eZ l).bind fun c=>if c.1.toNat=0 then some c.2 else none:=by
 cases l with
 | nil=>rfl
 | cons c l=>
  simp only [eZ,aw];by_cases h:c=0
  ·subst h
   rfl
  ·have:c.toNat≠0:=fun g=>h (dx.1 (by simpa using g))
   rw [aC this];unfold oU;split
   ·rename_i heq
    injection heq with e1 e2;exact absurd e1 h
   ·rfl
theorem IR.vY (L:List UInt8) (s:IR):(s.zero L).rest L=(s.rest L).bind oU:=by
 have h1:=IR.vG L s;have h2:=IR.yS L s;have hz:(s.rest L).bind oU=((s.rest L).bind eZ).bind fun c=>if c.1.toNat=0 then some c.2 else none:=by
  cases s.rest L with
  | none=>rfl
  | some l=>simp only [aw,Ej]
 rw [hz];unfold ei at h1;unfold IR.zero;cases hb:(s.rest L).bind eZ with
 | none=>
  rw [hb]at h1;simp only [Option.map_none]at h1;simp only [Option.bind_none];split
  ·exact h1
  ·simp [IR.rest]
 | some y=>
  rw [hb]at h1;have e:=h2 y hb;rw [e];simp only [bE]at h1;simp only [aw];split
  ·exact h1
  ·simp [IR.rest]
theorem IR.H8 {L:List UInt8} {s:IR} (h:s.ok L):(s.zero L).ok L:=by
 have:=IR.xC h;unfold IR.zero;split
 ·exact this
 ·exact⟨this.1,by simp,by simp⟩
theorem Fc (l:List UInt8):sh l=(eZ l).bind fun c=>if c.1.toNat=64 then some (0,c.2)else if c.1.toNat=127 then some (1,c.2)else if c.1.toNat=126 then some (2,c.2)else none:=by
 cases l with
 | nil=>rfl
 | cons c l=>
  simp only [eZ,aw];have key:∀k:UInt8,c.toNat=k.toNat ->c=k:=fun k h=>dx.1 h;unfold sh;split
  ·rename_i heq;injection heq with e1 e2;subst e1 e2;rfl
  ·rename_i heq;injection heq with e1 e2;subst e1 e2;rfl
  ·rename_i heq;injection heq with e1 e2;subst e1 e2;rfl
  ·rename_i h1 h2 h3
   rw [aC (fun g=>h1 l (by rw [key 0x40 g])),aC (fun g=>h2 l (by rw [key 0x7f g])),aC (fun g=>h3 l (by rw [key 0x7e g]))]
theorem IR.Cp (L:List UInt8) (s:IR):(s.kind L).2.rest L=ei sh (s.rest L)/\∀y,(s.rest L).bind sh=some y ->((s.kind L).1:Int)=y.1:=by
 have h1:=IR.vG L s;have h2:=IR.yS L s;have hz:(s.rest L).bind sh=((s.rest L).bind eZ).bind fun c=>if c.1.toNat=64 then some (0,c.2)else if c.1.toNat=127 then some (1,c.2)else if c.1.toNat=126 then some (2,c.2)else none:=by
  cases s.rest L with
  | none=>rfl
  | some l=>simp only [aw,Fc]
 unfold ei at h1⊢;rw [hz];unfold IR.kind;cases hb:(s.rest L).bind eZ with
 | none=>
  rw [hb]at h1;simp only [Option.map_none]at h1;simp only [Option.bind_none,Option.map_none];have he:¬ (s.byte L).2.err=0:=fun g=>by rw [IR.rest,aJ g]at h1;cases h1
  refine⟨?_,fun y hy=>by cases hy⟩;split
  ·exact h1
  ·split
   ·exact h1
   ·split
    ·exact h1
    ·simp only
     exact h1
 | some y=>
  rw [hb]at h1;have e:=h2 y hb;rw [e];simp only [bE]at h1;simp only [aw];split
  ·exact⟨h1,fun z hz=>by injection hz with hz;rw [<- hz];rfl⟩
  ·split
   ·exact⟨h1,fun z hz=>by injection hz with hz;rw [<- hz];rfl⟩
   ·split
    ·exact⟨h1,fun z hz=>by injection hz with hz;rw [<- hz];rfl⟩
    ·refine⟨?_,fun z hz=>by cases hz⟩
     simp only [Option.map_none];split
     ·simp [IR.rest]
     ·rename_i he
      simp [IR.rest,he]
theorem IR.GY {L:List UInt8} {s:IR} (h:s.ok L):(s.kind L).2.ok L:=by
 have:=IR.xC h;unfold IR.kind;split
 ·exact this
 ·split
  ·exact this
  ·split
   ·exact this
   ·simp only
    split
    ·exact⟨this.1,by simp,by simp⟩
    ·exact this
def IR.mc (L:List UInt8):Nat ->IR ->List Nat × IR
 | 0,s=>([],s)
 | n+1,s=>((s.jW L 1000).1::(IR.mc L n (s.jW L 1000).2).1,(IR.mc L n (s.jW L 1000).2).2)
theorem IR.wG (L:List UInt8):∀(n:Nat) (s:IR),(s.mc L n).2.rest L=ei (oL 1000 n) (s.rest L)/\gU (oL 1000 n) (s.rest L) ((s.mc L n).1.map fun x:Nat=>(x:Int))
 | 0,s=>by
  refine⟨?_,fun y hy=>?_⟩
  ·simp only [IR.mc,ei]
   cases s.rest L <;>rfl
  ·cases h:s.rest L with
   | none=>rw [h]at hy;simp at hy
   | some l=>rw [h]at hy;simp only [aw,oL,aX]at hy;rw [<- hy];rfl
 | n+1,s=>by
  have h1:=IR.rn L 1000 s;have h2:=IR.sV L 1000 s;obtain⟨h3,h4⟩:=IR.wG L n (s.jW L 1000).2;rw [h1]at h3 h4;simp only [IR.mc];rw [h3];cases hr:s.rest L with
  | none=>exact⟨rfl,fun y hy=>by simp at hy⟩
  | some l=>
   rw [hr]at h2 h4;simp only [ei,aw,oL]at h4⊢;cases ha:lh 1000 l with
   | none=>exact⟨rfl,fun y hy=>by simp [ha]at hy⟩
   | some a=>
    have e1:=h2 a (by simpa using ha);rw [ha]at h4;simp only [bE,aw];cases hb:oL 1000 n a.2 with
    | none=>exact⟨rfl,fun y hy=>by simp [ha,hb]at hy⟩
    | some b=>
     have e2:=h4 b (by simpa using hb);refine⟨rfl,fun y hy=>?_⟩;simp only [aw,ha,hb,aX]at hy;rw [<- hy,bA,e1,e2]
def IR.get (L:List UInt8) (c:Nat) (s:IR):eK × IR:=
 match fJ c with
 | 2=>(⟨c,(s.kind L).1,0,[]⟩,(s.kind L).2)
 | 3=>(⟨c,(s.jW L 1000).1,0,[]⟩,(s.jW L 1000).2)
 | 4=>(⟨c,(((s.jW L 50).2.mc L (s.jW L 50).1).2.jW L 1000).1,0,((s.jW L 50).2.mc L (s.jW L 50).1).1.map fun x:Nat=>(x:Int)⟩,(((s.jW L 50).2.mc L (s.jW L 50).1).2.jW L 1000).2)
 | 5=>(⟨c,(s.jW L 1000).1,0,[]⟩,(s.jW L 1000).2.zero L)
 | 6=>(⟨c,(s.jW L 3).1,((s.jW L 3).2.jW L 4294967295).1,[]⟩,((s.jW L 3).2.jW L 4294967295).2)
 | 7=>(⟨c,0,0,[]⟩,s.zero L)
 | 8=>(⟨c,(s.pZ L 32).1,0,[]⟩,(s.pZ L 32).2)
 | 9=>(⟨c,(s.pZ L 64).1,0,[]⟩,(s.pZ L 64).2)
 | _=>(⟨c,0,0,[]⟩,s)
theorem IR.rL (c:UInt8) (l:List UInt8) (hf:fJ c.toNat≠0):
  (IR.get (c::l) c.toNat ⟨1,0⟩).2.rest (c::l)=(gu (c::l)).map (·.2)/\∀y,gu (c::l)=some y ->(IR.get (c::l) c.toNat ⟨1,0⟩).1=y.1:=by
 have h0:IR.rest (c::l) ⟨1,0⟩=some l:=rfl;have QL:=nT c.toNat;have hu:=fun lim=>IR.rn (c::l) lim ⟨1,0⟩;have hw:=fun lim=>IR.sV (c::l) lim ⟨1,0⟩;simp only [h0,ei,aw]at hu;simp only [h0,gU,aw]at hw;unfold IR.get gu;dsimp only;generalize hff:fJ (c.toNat:Int)=f at*;rcases(show f=1\/f=2\/f=3\/f=4\/f=5\/f=6\/f=7\/f=8\/f=9 by omega)with rfl | rfl | rfl | rfl | rfl | rfl | rfl | rfl | rfl
 ·exact⟨rfl,fun y hy=>by injection hy with hy;rw [<- hy];rfl⟩
 ·obtain⟨h1,h2⟩:=IR.Cp (c::l) ⟨1,0⟩
  simp only [h0,ei,aw]at h1 h2;simp only [h1];cases hk:sh l with
  | none=>exact⟨rfl,fun y hy=>by cases hy⟩
  | some k=>exact⟨rfl,fun y hy=>by simp only [aw,aX]at hy;rw [<- hy,h2 k hk]⟩
 ·simp only [hu]
  cases hk:lh 1000 l with
  | none=>exact⟨rfl,fun y hy=>by cases hy⟩
  | some k=>exact⟨rfl,fun y hy=>by simp only [aw,aX]at hy;rw [<- hy,hw 1000 k hk]⟩
 ·simp only
  generalize LZ:IR.jW (c::l) 50 ⟨1,0⟩=s1;have a1:=hu 50;have a2:=hw 50;rw [LZ]at a1 a2;obtain⟨b1,b2⟩:=IR.wG (c::l) s1.1 s1.2;generalize KG:s1.2.mc (c::l) s1.1=s2 at*;have c1:=IR.rn (c::l) 1000 s2.2;have c2:=IR.sV (c::l) 1000 s2.2;generalize Md:s2.2.jW (c::l) 1000=s3 at*;rw [b1]at c1 c2;rw [a1]at b1 b2 c1 c2;rw [c1];cases h1:lh 50 l with
  | none=>exact⟨rfl,fun y hy=>by cases hy⟩
  | some n=>
   have e1:=a2 n h1;rw [h1]at b2 c2;simp only [bE,aw,ei,e1]at b2 c2⊢;cases h2:oL 1000 n.1 n.2 with
   | none=>exact⟨rfl,fun y hy=>by cases hy⟩
   | some t=>
    have e2:=b2 t (by simpa using h2);rw [h2]at c2;simp only [bE,aw]at c2⊢;cases h3:lh 1000 t.2 with
    | none=>exact⟨rfl,fun y hy=>by cases hy⟩
    | some x=>
     have e3:=c2 x (by simpa using h3);exact⟨rfl,fun y hy=>by simp only [aw,aX]at hy;rw [<- hy,e3,e2]⟩
 ·simp only [IR.vY,hu]
  cases hk:lh 1000 l with
  | none=>exact⟨rfl,fun y hy=>by cases hy⟩
  | some k=>
   simp only [bE,aw];cases hz:oU k.2 with
   | none=>exact⟨rfl,fun y hy=>by cases hy⟩
   | some r=>exact⟨rfl,fun y hy=>by simp only [aw,aX]at hy;rw [<- hy,hw 1000 k hk]⟩
 ·have c1:=IR.rn (c::l) 4294967295 (IR.jW (c::l) 3 ⟨1,0⟩).2
  have c2:=IR.sV (c::l) 4294967295 (IR.jW (c::l) 3 ⟨1,0⟩).2;rw [hu]at c1 c2;simp only [c1];cases hk:lh 3 l with
  | none=>exact⟨rfl,fun y hy=>by cases hy⟩
  | some k=>
   rw [hk]at c2;simp only [bE,aw,ei]at c2⊢;cases hz:lh 4294967295 k.2 with
   | none=>exact⟨rfl,fun y hy=>by cases hy⟩
   | some r=>exact⟨rfl,fun y hy=>by simp only [aw,aX]at hy;rw [<- hy,hw 3 k hk,c2 r (by simpa using hz)]⟩
 ·simp only [IR.vY,h0,aw]
  cases hz:oU l with
  | none=>exact⟨rfl,fun y hy=>by cases hy⟩
  | some r=>exact⟨rfl,fun y hy=>by simp only [aw,aX]at hy;rw [<- hy]⟩
 ·have c1:=IR.yA (c::l) 32 ⟨1,0⟩ rfl
  have c2:=IR.BC (c::l) 32 ⟨1,0⟩;simp only [h0,ei,aw]at c1;simp only [h0,gU,aw]at c2;simp only [c1];cases hk:Bh 32 l with
  | none=>exact⟨rfl,fun y hy=>by cases hy⟩
  | some k=>exact⟨rfl,fun y hy=>by simp only [aw,aX]at hy;rw [<- hy,c2 k hk]⟩
 ·have c1:=IR.yA (c::l) 64 ⟨1,0⟩ rfl
  have c2:=IR.BC (c::l) 64 ⟨1,0⟩;simp only [h0,ei,aw]at c1;simp only [h0,gU,aw]at c2;simp only [c1];cases hk:Bh 64 l with
  | none=>exact⟨rfl,fun y hy=>by cases hy⟩
  | some k=>exact⟨rfl,fun y hy=>by simp only [aw,aX]at hy;rw [<- hy,c2 k hk]⟩
theorem iH (n a b:Int) (w:World):Calls prog 134 #[.int .i64 n, .int .i64 a, .int .i64 b] w (ew (lN n a b) w):=by
 by_cases q0:a <=n;rotate_left
 ·have f0:decide (a <=n)=false:=az q0
  have HB:=V (show lN n a b=false by rw [lN,f0];rfl);go_enter func134,ntmps134;go_wp2_with fail;go_ret;exact⟨by rw [HB.out];rfl,an _ _⟩
 have f0:decide (a <=n)=true:=aA q0;by_cases q1:n <=b
 ·have f1:decide (n <=b)=true:=aA q1
  have HB:=V (show lN n a b=true by rw [lN,f0,f1];rfl);go_enter func134,ntmps134;go_wp2_with fail;go_ret;exact⟨by rw [HB.out];rfl,an _ _⟩
 ·have f1:decide (n <=b)=false:=az q1
  have HB:=V (show lN n a b=false by rw [lN,f0,f1];rfl);go_enter func134,ntmps134;go_wp2_with fail;go_ret;exact⟨by rw [HB.out];rfl,an _ _⟩
def JK (op:Int) (w:World) (e:Ending) (w':World):Prop:=e= .returned (.tuple #[.int .i64 (sc op).1, .int .i64 (sc op).2])/\Below w.heap.size w w'
theorem qu (op:Int) (w:World):Calls prog 133 #[.int .i64 op] w (JK op w):=by
 have hb:=an w.heap.size w;go_enter func133,ntmps133;go_wp2_with fail;refine(iH op 69 79 _).mono ?_;rintro x w1 ⟨rfl,KT⟩;have hb:=dY hb KT;clear KT;cases h1:lN op 69 79
 ·have H1:=V h1
  clear h1;go_wp2_with fail;refine(iH op 103 120 _).mono ?_;rintro x w2 ⟨rfl,KT⟩;have hb:=dY hb KT;clear KT;cases h2:lN op 103 120
  ·have H2:=V h2
   clear h2;go_wp2_with fail;refine(iH op 80 90 _).mono ?_;rintro x w3 ⟨rfl,KT⟩;have hb:=dY hb KT;clear KT;cases h3:lN op 80 90
   ·have H3:=V h3
    clear h3;go_wp2_with fail;refine(iH op 121 138 _).mono ?_;rintro x w4 ⟨rfl,KT⟩;have hb:=dY hb KT;clear KT;cases h4:lN op 121 138
    ·have H4:=V h4
     clear h4;go_wp2_with fail
     go_ret2
     exact⟨by rw [sc,H1.out,H2.out,H3.out,H4.out];rfl,hb⟩
    ·obtain⟨g1,g2⟩:=jM.1 h4
     have H4:=V h4;clear h4;go_wp2_with fail
     go_ret2
     exact⟨by rw [sc,H1.out,H2.out,H3.out,H4.out];rfl,hb⟩
   ·obtain⟨g1,g2⟩:=jM.1 h3
    have H3:=V h3;clear h3;go_wp2_with fail
    go_ret2
    exact⟨by rw [sc,H1.out,H2.out,H3.out];rfl,hb⟩
  ·have H2:=V h2
   clear h2;go_wp2_with fail
   go_ret2
   exact⟨by rw [sc,H1.out,H2.out];rfl,hb⟩
 ·have H1:=V h1
  clear h1;go_wp2_with fail
  go_ret2
  exact⟨by rw [sc,H1.out];rfl,hb⟩
def DK (op:Int) (w:World) (e:Ending) (w':World):Prop:=
 ∃v,e= .returned (.tuple #[v, .int .i64 (eX op).2.1, .bool (eX op).2.2])/\eg 1 fb w' v (eX op).1/\Below w.heap.size w w'
theorem lA (w:World) (x:Int) (t:TypeId):eg 1 fb (w.alloc (.cells #[.int .i64 x] t)) (.slice (some ⟨w.heap.size,0,none⟩) 1 1) [x]:=by
 refine⟨_,1,rfl,ag _,by simp [maxLen],fun i y hy=>⟨w.heap.size,0,rfl,by simp,fun j u hu=>?_⟩⟩;rw [bQ]
 match i,hy with
 | 0,hy=>
  simp at hy;subst hy
  match j,hu with
  | 0,hu=>simp [fb]at hu;subst hu;rfl
  | j+1,hu=>simp [fb]at hu
 | i+1,hy=>simp at hy
theorem C9 (op:Int) (w:World):Calls prog 86 #[.int .i64 op] w (DK op w):=by
 have hb:=an w.heap.size w;have MK:∀w1:World,Below w1.heap.size w1 w1:=fun w1=>an _ _;by_cases q1:op=167
 ·subst q1
  go_enter func86,ntmps86;go_wp2_with fail
  go_ret3
  exact⟨_,rfl,lA w 2 _,hb.alloc (ag _) _⟩
 have f1:(op==167)=false:=dS q1;by_cases q2:op=172
 ·subst q2
  go_enter func86,ntmps86;go_wp2_with fail
  go_ret3
  exact⟨_,rfl,lA w 1 _,hb.alloc (ag _) _⟩
 have f2:(op==172)=false:=dS q2;by_cases q3:op=173
 ·subst q3
  go_enter func86,ntmps86;go_wp2_with fail
  go_ret3
  exact⟨_,rfl,lA w 1 _,hb.alloc (ag _) _⟩
 have f3:(op==173)=false:=dS q3;have HQ:Hid (op≠167/\op≠172/\op≠173):=V ⟨q1,q2,q3⟩;clear q1 q2 q3 MK;go_enter func86,ntmps86;go_wp2_with fail;refine(qu op _).mono ?_;rintro x w1 ⟨rfl,KJ⟩;obtain⟨k,hk⟩:∃k,(sc op).1=k:=⟨_,rfl⟩;obtain⟨l,hl⟩:∃l,(sc op).2=l:=⟨_,rfl⟩;rw [hk,hl];have HK:=V hk;have HL:=V hl;replace hb:=dY hb KJ;clear hk hl KJ f1 f2 f3;by_cases q4:k=0
 ·have f4:(k==0)=true:=eH q4
  have H4:=V q4;clear q4;go_wp2_with fail
  go_ret3
  have:eX op=([],0,false):=by rw [eX,aC HQ.out.1,aC HQ.out.2.1,aC HQ.out.2.2,HK.out,aJ H4.out]
  exact⟨_,by rw [this];rfl,by rw [this];exact eg.nil _,hb⟩
 have f4:(k==0)=false:=dS q4;have H4:=V (show k≠0 from q4);clear q4;by_cases q5:l=69
 ·have f5:(l==69)=true:=eH q5
  have H5:=V q5;clear q5;go_wp2_with fail
  go_ret3
  have:eX op=([k],1,true):=by rw [eX,aC HQ.out.1,aC HQ.out.2.1,aC HQ.out.2.2,HK.out,HL.out,aC H4.out,aJ H5.out]
  exact⟨_,by rw [this];rfl,by rw [this];exact lA w1 k _,hb.alloc hb.size _⟩
 have f5:(l==69)=false:=dS q5;have H5:=V (show l≠69 from q5);clear q5;go_wp2_with fail;refine(iH l 70 79 _).mono ?_;rintro x w2 ⟨rfl,KT⟩;replace hb:=dY hb KT;clear KT f4 f5;cases h6:lN l 70 79 with
 | true=>
  have H6:=V h6;clear h6;go_wp2_with fail
  go_ret3
  have:eX op=([k,k],1,true):=by rw [eX,aC HQ.out.1,aC HQ.out.2.1,aC HQ.out.2.2,HK.out,HL.out,aC H4.out,aC H5.out,H6.out];rfl
  exact⟨_,by rw [this];rfl,by rw [this];exact pz w2 k k _,hb.alloc hb.size _⟩
 | false=>
  have H6:=V h6;clear h6;go_wp2_with fail;refine(iH l 103 105 _).mono ?_;rintro x w3 ⟨rfl,KT⟩;replace hb:=dY hb KT;clear KT;cases h7:lN l 103 105 with
  | true=>
   have H7:=V h7;clear h7;go_wp2_with fail
   go_ret3
   have:eX op=([k],k,true):=by rw [eX,aC HQ.out.1,aC HQ.out.2.1,aC HQ.out.2.2,HK.out,HL.out,aC H4.out,aC H5.out,H6.out,H7.out];rfl
   exact⟨_,by rw [this];rfl,by rw [this];exact lA w3 k _,hb.alloc hb.size _⟩
  | false=>
   have H7:=V h7;clear h7;go_wp2_with fail
   go_ret3
   have:eX op=([k,k],k,true):=by rw [eX,aC HQ.out.1,aC HQ.out.2.1,aC HQ.out.2.2,HK.out,HL.out,aC H4.out,aC H5.out,H6.out,H7.out];rfl
   exact⟨_,by rw [this];rfl,by rw [this];exact pz w3 k k _,hb.alloc hb.size _⟩
def BG (op:Int) (w:World) (e:Ending) (w':World):Prop:=e= .returned (.int .i64 (fJ op))/\Below w.heap.size w w'
theorem FH (w:World):∀op∈([0,1,5,11,15,26,27,2,3,4,12,13,16,32,33,34,35,36,14,17,40,41,44,45,54,55,58,63,64,65,66]:List Int),Calls prog 150 #[.int .i64 op] w (BG op w):=by
 intro op h;simp only [bB,bJ,cM]at h;rcases h with rfl | rfl | rfl | rfl | rfl | rfl | rfl | rfl | rfl | rfl | rfl | rfl | rfl | rfl | rfl | rfl | rfl | rfl | rfl | rfl | rfl | rfl | rfl | rfl | rfl | rfl | rfl | rfl | rfl | rfl | rfl
 all_goals
  go_enter func150,ntmps150;go_wp2_with fail;go_ret;exact⟨rfl,an _ _⟩
theorem tO (op:Int) (w:World):Calls prog 150 #[.int .i64 op] w (BG op w):=by
 by_cases h:op∈([0,1,5,11,15,26,27,2,3,4,12,13,16,32,33,34,35,36,14,17,40,41,44,45,54,55,58,63,64,65,66]:List Int)
 ·exact FH w op h
 simp only [bB,bJ,cM,not_or]at h;obtain⟨q0,q1,q5,Ol,q15,q26,q27,q2,q3,q4,q12,q13,q16,q32,q33,q34,q35,q36,q14,q17,q40,q41,q44,q45,q54,q55,q58,q63,q64,q65,q66⟩:=h;have HF:Hid (fJ op=if(eX op).2.2=true then 1 else 0):=V (by
  unfold fJ;rw [aC (by omega),aC (by omega),aC (by omega),aC q14,aC q17,aC (by omega),aC (by omega),aC q65,aC q66])
 replace q0:=dS q0;replace q1:=dS q1;replace q5:=dS q5;replace Ol:=dS Ol;replace q15:=dS q15;replace q26:=dS q26;replace q27:=dS q27;replace q2:=dS q2;replace q3:=dS q3;replace q4:=dS q4;replace q12:=dS q12;replace q13:=dS q13;replace q16:=dS q16;replace q32:=dS q32;replace q33:=dS q33;replace q34:=dS q34;replace q35:=dS q35;replace q36:=dS q36;replace q14:=dS q14;replace q17:=dS q17;replace q40:=dS q40;replace q41:=dS q41;replace q44:=dS q44;replace q45:=dS q45;replace q54:=dS q54;replace q55:=dS q55;replace q58:=dS q58;replace q63:=dS q63;replace q64:=dS q64;replace q65:=dS q65;replace q66:=dS q66;go_enter func150,ntmps150;go_wp2_with fail;refine(C9 op _).mono ?_;rintro x w1 ⟨v,rfl,-,hb⟩;clear q0 q1 q5 Ol q15 q26 q27 q2 q3 q4 q12 q13 q16 q32 q33 q34 q35 q36 q14 q17 q40 q41 q44 q45 q54 q55 q58 q63 q64 q65 q66;cases hk:(eX op).2.2 with
 | true=>
  have HK:=V hk;clear hk;go_wp2_with fail;go_ret;exact⟨by rw [HF.out,aJ HK.out];rfl,hb⟩
 | false=>
  have HK:=V hk;clear hk;go_wp2_with fail;go_ret;exact⟨by rw [HF.out,aC (by rw [HK.out];decide)];rfl,hb⟩
theorem ki (n a b:Int) (w:World):Calls prog 151 #[.int .i64 n, .int .i64 a, .int .i64 b] w (ew (lN n a b) w):=by
 by_cases q0:a <=n;rotate_left
 ·have f0:decide (a <=n)=false:=az q0
  have HB:=V (show lN n a b=false by rw [lN,f0];rfl);go_enter func151,ntmps151;go_wp2_with fail;go_ret;exact⟨by rw [HB.out];rfl,an _ _⟩
 have f0:decide (a <=n)=true:=aA q0;by_cases q1:n <=b
 ·have f1:decide (n <=b)=true:=aA q1
  have HB:=V (show lN n a b=true by rw [lN,f0,f1];rfl);go_enter func151,ntmps151;go_wp2_with fail;go_ret;exact⟨by rw [HB.out];rfl,an _ _⟩
 ·have f1:decide (n <=b)=false:=az q1
  have HB:=V (show lN n a b=false by rw [lN,f0,f1];rfl);go_enter func151,ntmps151;go_wp2_with fail;go_ret;exact⟨by rw [HB.out];rfl,an _ _⟩
theorem nq (n:Int) (w:World):Calls prog 152 #[.int .i64 n] w (ew (lN n 0 1000) w):=by
 go_enter func152,ntmps152;go_wp2_with fail;refine(ki n 0 1000 _).mono ?_;rintro x w1 ⟨rfl,hb⟩;go_wp2_with fail;go_ret;exact⟨rfl,hb⟩
theorem fh (w:World) (X i:Nat) (v:Value):dU (fun k=>k=X) w (w.setCell ⟨X,i,none⟩ v):=⟨rfl,rfl,rfl,by simp,fun k _ hk=>cL w ⟨X,i,none⟩ v k hk⟩
def sC (w0 w:World) (R:Nat) (a:Option Addr) (cap:Nat) (L:List UInt8) (s:IR):Prop:=
 eG w R #[.slice a L.length cap, .int .i64 s.pos, .int .i64 s.err] 347/\eJ w0 (.slice a L.length cap) L/\Below w0.heap.size w0 w/\w0.heap.size <=R/\s.ok L
def yZ (w0 w:World) (R:Nat) (a:Option Addr) (cap:Nat) (L:List UInt8) (v:Value) (s:IR) (e:Ending) (w':World):Prop:=
 e= .returned v/\sC w0 w' R a cap L s/\dU (fun k=>k=R) w w'
theorem sC.keeps {w0 w w':World} {R:Nat} {a:Option Addr} {cap:Nat} {L:List UInt8} {s:IR} {S:Nat ->Prop} (h:sC w0 w R a cap L s) (hk:dU S w w') (hR:¬ S R) (hS:∀i,S i ->w0.heap.size <=i):sC w0 w' R a cap L s:=
 ⟨h.1.keeps hk hR,h.2.1,h.2.2.1.trans (hk.below h.2.2.1.size hS),h.2.2.2⟩
theorem sC.set {w0 w:World} {R:Nat} {a:Option Addr} {cap:Nat} {L:List UInt8} {s s':IR} (h:sC w0 w R a cap L s) {i:Nat} {v:Value}
  (hc:(#[.slice a L.length cap, .int .i64 s.pos, .int .i64 s.err]:Array Value).setIfInBounds i v=#[.slice a L.length cap, .int .i64 s'.pos, .int .i64 s'.err]) (ho:s'.ok L):sC w0 (w.setCell ⟨R,i,none⟩ v) R a cap L s':=
 ⟨by rw [<- hc];exact h.1.set i v,h.2.1,h.2.2.1.setCell h.2.2.2.1 _,h.2.2.2.1,ho⟩
theorem sC.drew {w0 w:World} {R:Nat} {a:Option Addr} {cap:Nat} {L:List UInt8} {s:IR} (h:sC w0 w R a cap L s):sC w0 w.drew R a cap L s:=⟨h.1.drew,h.2.1,h.2.2.1.drew,h.2.2.2⟩
theorem sC.bytes {w0 w:World} {R:Nat} {a:Option Addr} {cap:Nat} {L:List UInt8} {s:IR} (h:sC w0 w R a cap L s):eJ w (.slice a L.length cap) L:=h.2.1.below h.2.2.1
theorem qo (w0 w:World) (R:Nat) (a:Option Addr) (cap:Nat) (L:List UInt8) (s:IR) (h:sC w0 w R a cap L s):
  Calls prog 293 #[.pointer (some ⟨R,0,none⟩)] w (yZ w0 w R a cap L (.int .i64 (s.byte L).1) (s.byte L).2):=by
 have Lh:=IR.xC h.2.2.2.2;obtain⟨pos,err⟩:=s;have Lm:=h.1;have KF:=h.2.2.2.2;obtain⟨o1,o2,o3⟩:=KF;simp only at o1 o2 o3;obtain⟨_,_,N3,O8,My,-⟩:=h.2.1;injection N3 with e1 e2 e3;subst e1 e3;clear e2;unfold maxLen at My;have d0:=Lm.cell 0;have d1:=Lm.cell 1;have d2:=Lm.cell 2;have z1:=Lm.free 1;have z2:=Lm.free 2;have H:=V h;clear h Lm;simp only at d1 d2;by_cases q1:err=0;rotate_left
 ·have f1:=ff q1
  have HB:=V (show IR.byte L ⟨pos,err⟩=(0,⟨pos,err⟩)by unfold IR.byte;exact if_neg q1);clear q1 Lh;go_enter func293,ntmps293;go_wp2_with fail;go_ret;exact⟨by rw [HB.out];rfl,by rw [HB.out];exact H.out,dU.refl _ _⟩
 subst q1;by_cases q2:pos=L.length
 ·have f2:((pos:Int)==(L.length:Int))=true:=eH (by omega)
  have HB:=V (show IR.byte L ⟨pos,0⟩=(0,⟨pos,2⟩)by
   unfold IR.byte;rw [aJ rfl,show L[pos]?=none from dh (by omega)])
  have HO:=V Lh;clear q2 Lh;go_enter func293,ntmps293;go_wp2_with fail;refine ef (fun w'=>w'.cell? ⟨R,0,none⟩=some (.slice a L.length cap)/\w'.cell? ⟨R,1,none⟩=some (.int .i64 pos)) (up 0 11 []) (by kernel_rfl) (by kernel_rfl) ⟨d0,d1⟩ ?_;iterate 11 (first | (apply sk rfl rfl;simp only [pt]) | (apply dV rfl rfl rfl;·(rintro w' ⟨t0,t1⟩;go_wp2;exact⟨rfl,rfl,rfl⟩)))
  refine eL ?_;refine aD ?_;go_wp2_with fail;go_ret;exact⟨by rw [HB.out];rfl,by rw [HB.out];exact H.out.drew.set rfl (by have:=HO.out;rw [HB.out]at this;exact this),(dU.refl _ _).drew.trans (fh _ R 2 _) (fun _ h=> .inl h)⟩
 ·have f2:((pos:Int)==(L.length:Int))=false:=dS (by omega)
  have KC:pos < L.length:=by omega
  obtain⟨c,hc⟩:∃c,L[pos]?=some c:=⟨_,aq KC⟩;have HB:=V (show IR.byte L ⟨pos,0⟩=(c.toNat,⟨pos+1,0⟩)by
   unfold IR.byte;rw [aJ rfl,hc])
  have HO:=V Lh;obtain⟨_,_,N3,-,-,Kt⟩:=H.out.bytes;injection N3 with e1 e2 e3;subst e1 e3;obtain⟨g,off,rfl,hg⟩:=Kt pos c hc;have hgR:g≠R:=by
   have h1:=aT w _ hg;obtain⟨_,_,N3,-,-,hcells0⟩:=H.out.2.1;injection N3 with e1 e2 e3;obtain⟨g',off',e4,QM⟩:=hcells0 pos c hc;rw [<- e1]at e4;injection e4 with e4;injection e4 with e4 e5;have h2:=aT w0 _ QM;have h3:=H.out.2.2.2.1;intro h4;rw [h4]at e4;rw [<- e4]at h2;exact absurd h3 (Nat.not_le.2 h2)
  have OJ:((w.drew.setCell ⟨R,1,none⟩ (.int .i64 ((pos:Int)+1)))).cell? ⟨g,off+pos,none⟩=some (bv c):=by
   rw [bm (w:=w) (a:=⟨g,off+pos,none⟩) (cL w.drew ⟨R,1,none⟩ _ g hgR)];exact hg
  have Pc:=(H.out.drew.1).set 1 (.int .i64 ((pos:Int)+1));have d0':(w.drew.setCell ⟨R,1,none⟩ (.int .i64 ((pos:Int)+1))).cell? ⟨R,0,none⟩=some (.slice (some ⟨g,off,none⟩) L.length cap):=Pc.cell 0;have d1':(w.drew.setCell ⟨R,1,none⟩ (.int .i64 ((pos:Int)+1))).cell? ⟨R,1,none⟩=some (.int .i64 ((pos:Int)+1)):=Pc.cell 1;have hcb:(c.toNat:Int) <=255:=by have:=c.toNat_lt;omega
  have hcb0:(0:Int) <=(c.toNat:Int):=by omega
  clear q2 Lh Kt e2 hc hg hgR Pc;go_enter func293,ntmps293;go_wp2_with fail;refine ef (fun w'=>w'.cell? ⟨R,0,none⟩=some (.slice (some ⟨g,off,none⟩) L.length cap)/\w'.cell? ⟨R,1,none⟩=some (.int .i64 pos)) (up 0 11 []) (by kernel_rfl) (by kernel_rfl) ⟨d0,d1⟩ ?_;iterate 11 (first | (apply sk rfl rfl;simp only [pt]) | (apply dV rfl rfl rfl;·(rintro w' ⟨t0,t1⟩;go_wp2;exact⟨rfl,rfl,rfl⟩)))
  refine eL ?_;refine aD ?_;go_wp2_with fail;refine ef (fun w'=>w'.cell? ⟨R,0,none⟩=some (.slice (some ⟨g,off,none⟩) L.length cap)/\w'.cell? ⟨R,1,none⟩=some (.int .i64 ((pos:Int)+1))/\w'.cell? ⟨g,off+pos,none⟩=some (bv c)) (up 0 13 []) (by kernel_rfl) (by kernel_rfl) ⟨d0',d1',OJ⟩ ?_;iterate 13 (first | (apply sk rfl rfl;simp only [pt]) | (apply dV rfl rfl rfl;·(rintro w' ⟨t0,t1,t2⟩;go_wp2;exact⟨rfl,rfl,rfl⟩)))
  refine eL ?_;refine aD ?_;go_wp2_with fail;go_ret;exact⟨by rw [HB.out];rfl,by rw [HB.out];exact(H.out.drew.set rfl (by have:=HO.out;rw [HB.out]at this;exact this)).drew,((dU.refl _ _).drew.trans (fh _ R 1 _) (fun _ h=> .inl h)).drew⟩
theorem uk (w0 w:World) (R:Nat) (a:Option Addr) (cap:Nat) (L:List UInt8) (s:IR) (h:sC w0 w R a cap L s):
  Calls prog 296 #[.pointer (some ⟨R,0,none⟩)] w (yZ w0 w R a cap L (.tuple #[]) (s.zero L)):=by
 have Lh:=IR.H8 h.2.2.2.2;have HH:=V h;obtain⟨s1,LZ⟩:∃s1,(s.byte L).2=s1:=⟨_,rfl⟩;obtain⟨v1,NO⟩:∃v1,(s.byte L).1=v1:=⟨_,rfl⟩;have HO:=V Lh;have H1:=V LZ;have V1:=V NO;clear h Lh LZ NO;go_enter func296,ntmps296;go_wp2_with fail;refine(qo w0 _ R a cap L s HH.out).mono ?_;rintro e w1 ⟨rfl,h1,hk⟩;rw [V1.out];rw [H1.out]at h1;have z2:=h1.1.free 2;have d2:w1.cell? ⟨R,2,none⟩=some (.int .i64 s1.err):=h1.1.cell 2;have HI:=V h1;clear h1;by_cases q:v1=0
 ·have f:=jN (show(v1:Int)=0 by omega)
  have HZ:=V (show s.zero L=s1 by unfold IR.zero;rw [V1.out,if_pos q,H1.out]);clear q;go_wp2_with fail
  go_end0
  exact⟨rfl,by rw [HZ.out];exact HI.out,hk⟩
 ·have f:=ff (show(v1:Int)≠0 by omega)
  have HZ:=V (show s.zero L=⟨s1.pos,1⟩by unfold IR.zero;rw [V1.out,if_neg q,H1.out]);clear q;go_wp2_with fail
  go_end0
  exact⟨rfl,by rw [HZ.out];exact HI.out.set rfl (by have:=HO.out;rw [HZ.out]at this;exact this),hk.trans (fh _ R 2 _) (fun _ h=> .inl h)⟩
theorem yu (a:Option Addr) (cap:Nat) {L:List UInt8} {pos:Nat} (h:pos <=L.length):∃a2 KA,
  (∀wx,(Instr.slice 97 (.slice a L.length cap) (some (.int .i64 pos)) none none).run prog wx= .ok (.slice a2 (L.drop pos).length KA) wx)/\
  (∀wy,eJ wy (.slice a L.length cap) L ->eJ wy (.slice a2 (L.drop pos).length KA) (L.drop pos)):=by
 obtain⟨a2,KA,h1,h2,-⟩:=oq (show L=L.take pos++L.drop pos from(cB pos L).symm) a cap;rw [aS,cH h]at h1;exact⟨a2,KA,h1,h2⟩
theorem CV (l:List UInt8):(ib 32 l).1 < 4294967296:=by
 unfold ib;split
 ·simp
 ·split
  ·rename_i h
   simpa using h.2
  ·simp
theorem lB (w0 w:World) (R:Nat) (a:Option Addr) (cap:Nat) (L:List UInt8) (s:IR) (h:sC w0 w R a cap L s) (lim:Nat):
  Calls prog 295 #[.pointer (some ⟨R,0,none⟩), .int .i64 lim] w (yZ w0 w R a cap L (.int .i64 (s.jW L lim).1) (s.jW L lim).2):=by
 have Lh:=IR.IC (lim:=lim) h.2.2.2.2;obtain⟨pos,err⟩:=s;have Lm:=h.1;have KF:=h.2.2.2.2;obtain⟨o1,o2,o3⟩:=KF;simp only at o1 o2 o3;obtain⟨_,_,N3,O8,My,-⟩:=h.2.1;injection N3 with e1 e2 e3;subst e1 e3;clear e2;unfold maxLen at My;have d0:=Lm.cell 0;have d1:=Lm.cell 1;have d2:=Lm.cell 2;have z1:=Lm.free 1;have z2:=Lm.free 2;have H:=V h;clear h Lm;simp only at d1 d2;by_cases q1:err=0;rotate_left
 ·have f1:=ff q1
  have HB:=V (show IR.jW L lim ⟨pos,err⟩=(0,⟨pos,err⟩)by unfold IR.jW;exact if_neg q1);clear q1 Lh;go_enter func295,ntmps295;go_wp2_with fail;go_ret;exact⟨by rw [HB.out];rfl,by rw [HB.out];exact H.out,dU.refl _ _⟩
 subst q1;obtain⟨a2,KA,N3,hi⟩:=yu a cap o1;obtain⟨n,k,er,Lc⟩:∃n k er,ib 32 (L.drop pos)=(n,k,er):=⟨_,_,_,rfl⟩;have hn:n < 4294967296:=by have:=CV (L.drop pos);rw [Lc]at this;exact this
 have hk:pos+k <=L.length:=by have:=xL 32 (L.drop pos);rw [Lc,bq]at this;simp only at this;omega
 have HB:=V (show IR.jW L lim ⟨pos,0⟩=if er=0 then(if lim < n then(0,⟨pos,1⟩)else(n,⟨pos+k,0⟩))else(0,⟨pos,er⟩)by unfold IR.jW;simp only [Lc,if_true]);obtain⟨q,hq⟩:∃q,L.drop pos=q:=⟨_,rfl⟩;rw [hq]at N3 hi Lc;have HI:=V hi;have HO:=V Lh;clear hi Lh hq;by_cases q2:er=0;rotate_left
 ·have f2:=ff q2
  have f3:=dS q2;replace HB:=V (show IR.jW L lim ⟨pos,0⟩=(0,⟨pos,er⟩)by rw [HB.out,aC q2]);clear q2;go_enter func295,ntmps295;go_wp2_with fail;refine ef (fun w'=>w'.cell? ⟨R,0,none⟩=some (.slice a L.length cap)/\w'.cell? ⟨R,1,none⟩=some (.int .i64 pos)) (up 0 9 ((9,false)::up 10 7 [])) (by kernel_rfl) (by kernel_rfl) ⟨d0,d1⟩ ?_;iterate 9 (first | (apply sk rfl rfl;simp only [pt]) | (apply dV rfl rfl rfl;·(rintro w' ⟨t0,t1⟩;go_wp2;exact⟨rfl,rfl,rfl⟩)))
  refine ed rfl rfl ?_;go_wp2_with fail;refine(tx _ q _ _ ((HI.out _ H.out.bytes).below (an _ _).drew) (by omega) (by omega)).mono ?_;rintro e w1 ⟨rfl,hb⟩;have KT:Below w.heap.size w w1:=fN hb;rw [Lc];have Lw:=H.out.1.below KT H.out.1.lt;have d0':w1.cell? ⟨R,0,none⟩=some (.slice a L.length cap):=Lw.cell 0;have d1':w1.cell? ⟨R,1,none⟩=some (.int .i64 pos):=Lw.cell 1;have d2':w1.cell? ⟨R,2,none⟩=some (.int .i64 0):=Lw.cell 2;have z1':=Lw.free 1;have z2':=Lw.free 2;have h1:sC w0 w1 R a cap L ⟨pos,0⟩:=⟨Lw,H.out.2.1,H.out.2.2.1.trans (KT.mono H.out.2.2.1.size),H.out.2.2.2⟩;have H1:=V h1;have HB1:=V KT;clear h1 Lw hb KT d0 d1 d2 z1 z2 N3 Lc;go_wp2_with fail;refine⟨⟨d0',d1'⟩,?_⟩;iterate 7 (first | (apply sk rfl rfl;simp only [pt]) | (apply dV rfl rfl rfl;·(rintro w' ⟨t0,t1⟩;go_wp2;exact⟨rfl,rfl,rfl⟩)))
  refine eL ?_;refine aD ?_;go_wp2_with fail;go_ret;have hk:=(dU.dW (S:=fun k=>k=R) HB1.out).trans (fh w1 R 2 (.int .i64 er)) (fun _ h=> .inl h);exact⟨by rw [HB.out];rfl,by rw [HB.out];exact H1.out.set rfl (by have:=HO.out;rw [HB.out]at this;exact this),hk⟩
 subst q2;by_cases q3:lim < n
 ·have f3:decide (lim < n)=true:=aA q3
  replace HB:=V (show IR.jW L lim ⟨pos,0⟩=(0,⟨pos,1⟩)by rw [HB.out,aJ rfl,aJ q3]);clear q3;go_enter func295,ntmps295;go_wp2_with fail;refine ef (fun w'=>w'.cell? ⟨R,0,none⟩=some (.slice a L.length cap)/\w'.cell? ⟨R,1,none⟩=some (.int .i64 pos)) (up 0 9 ((9,false)::up 10 7 [])) (by kernel_rfl) (by kernel_rfl) ⟨d0,d1⟩ ?_;iterate 9 (first | (apply sk rfl rfl;simp only [pt]) | (apply dV rfl rfl rfl;·(rintro w' ⟨t0,t1⟩;go_wp2;exact⟨rfl,rfl,rfl⟩)))
  refine ed rfl rfl ?_;go_wp2_with fail;refine(tx _ q _ _ ((HI.out _ H.out.bytes).below (an _ _).drew) (by omega) (by omega)).mono ?_;rintro e w1 ⟨rfl,hb⟩;have KT:Below w.heap.size w w1:=fN hb;rw [Lc];have Lw:=H.out.1.below KT H.out.1.lt;have d0':w1.cell? ⟨R,0,none⟩=some (.slice a L.length cap):=Lw.cell 0;have d1':w1.cell? ⟨R,1,none⟩=some (.int .i64 pos):=Lw.cell 1;have d2':w1.cell? ⟨R,2,none⟩=some (.int .i64 0):=Lw.cell 2;have z1':=Lw.free 1;have z2':=Lw.free 2;have h1:sC w0 w1 R a cap L ⟨pos,0⟩:=⟨Lw,H.out.2.1,H.out.2.2.1.trans (KT.mono H.out.2.2.1.size),H.out.2.2.2⟩;have H1:=V h1;have HB1:=V KT;clear h1 Lw hb KT d0 d1 d2 z1 z2 N3 Lc;go_wp2_with fail;refine⟨⟨d0',d1'⟩,?_⟩;iterate 7 (first | (apply sk rfl rfl;simp only [pt]) | (apply dV rfl rfl rfl;·(rintro w' ⟨t0,t1⟩;go_wp2;exact⟨rfl,rfl,rfl⟩)))
  refine eL ?_;refine aD ?_;go_wp2_with fail;go_ret;have hk:=(dU.dW (S:=fun k=>k=R) HB1.out).trans (fh w1 R 2 (.int .i64 1)) (fun _ h=> .inl h);exact⟨by rw [HB.out];rfl,by rw [HB.out];exact H1.out.set rfl (by have:=HO.out;rw [HB.out]at this;exact this),hk⟩
 ·have f3:decide (lim < n)=false:=az q3
  replace HB:=V (show IR.jW L lim ⟨pos,0⟩=(n,⟨pos+k,0⟩)by rw [HB.out,aJ rfl,aC q3]);clear q3;go_enter func295,ntmps295;go_wp2_with fail;refine ef (fun w'=>w'.cell? ⟨R,0,none⟩=some (.slice a L.length cap)/\w'.cell? ⟨R,1,none⟩=some (.int .i64 pos)) (up 0 9 ((9,false)::up 10 7 [])) (by kernel_rfl) (by kernel_rfl) ⟨d0,d1⟩ ?_;iterate 9 (first | (apply sk rfl rfl;simp only [pt]) | (apply dV rfl rfl rfl;·(rintro w' ⟨t0,t1⟩;go_wp2;exact⟨rfl,rfl,rfl⟩)))
  refine ed rfl rfl ?_;go_wp2_with fail;refine(tx _ q _ _ ((HI.out _ H.out.bytes).below (an _ _).drew) (by omega) (by omega)).mono ?_;rintro e w1 ⟨rfl,hb⟩;have KT:Below w.heap.size w w1:=fN hb;rw [Lc];have Lw:=H.out.1.below KT H.out.1.lt;have d0':w1.cell? ⟨R,0,none⟩=some (.slice a L.length cap):=Lw.cell 0;have d1':w1.cell? ⟨R,1,none⟩=some (.int .i64 pos):=Lw.cell 1;have d2':w1.cell? ⟨R,2,none⟩=some (.int .i64 0):=Lw.cell 2;have z1':=Lw.free 1;have z2':=Lw.free 2;have h1:sC w0 w1 R a cap L ⟨pos,0⟩:=⟨Lw,H.out.2.1,H.out.2.2.1.trans (KT.mono H.out.2.2.1.size),H.out.2.2.2⟩;have H1:=V h1;have HB1:=V KT;clear h1 Lw hb KT d0 d1 d2 z1 z2 N3 Lc;go_wp2_with fail;refine⟨⟨d0',d1'⟩,?_⟩;iterate 7 (first | (apply sk rfl rfl;simp only [pt]) | (apply dV rfl rfl rfl;·(rintro w' ⟨t0,t1⟩;go_wp2;exact⟨rfl,rfl,rfl⟩)))
  refine eL ?_;refine aD ?_;go_wp2_with fail;go_ret;have hk:=(dU.dW (S:=fun k=>k=R) HB1.out).trans ((fh w1 R 2 (.int .i64 0)).trans (fh _ R 1 (.int .i64 ((pos:Int)+k))) (fun _ h=> .inl h)) (fun _ h=> .inl h);have h2:=H1.out.set (s':=⟨pos,0⟩) (i:=2) (v:= .int .i64 0) rfl H1.out.2.2.2.2;exact⟨by rw [HB.out];rfl,by rw [HB.out];exact h2.set rfl (by have:=HO.out;rw [HB.out]at this;exact this),hk⟩
theorem wi (w0 w:World) (R:Nat) (a:Option Addr) (cap:Nat) (L:List UInt8) (s:IR) (h:sC w0 w R a cap L s) (he:s.err=0) (bits:Int) (KJ:1 <=bits) (Kx:bits <=64):
  Calls prog 297 #[.pointer (some ⟨R,0,none⟩), .int .i64 bits] w (yZ w0 w R a cap L (.int .i64 (s.pZ L bits).1) (s.pZ L bits).2):=by
 have Lh:=IR.Iq (bits:=bits) h.2.2.2.2;obtain⟨pos,err⟩:=s;have Lm:=h.1;have KF:=h.2.2.2.2;obtain⟨o1,o2,o3⟩:=KF;simp only at o1 o2 o3;obtain⟨_,_,N3,O8,My,-⟩:=h.2.1;injection N3 with e1 e2 e3;subst e1 e3;clear e2;unfold maxLen at My;have d0:=Lm.cell 0;have d1:=Lm.cell 1;have d2:=Lm.cell 2;have z1:=Lm.free 1;have z2:=Lm.free 2;have H:=V h;clear h Lm;simp only at d1 d2;simp only at he;subst he;obtain⟨a2,KA,N3,hi⟩:=yu a cap o1;obtain⟨n,k,er,Lc⟩:∃n k er,jq bits (L.drop pos)=(n,k,er):=⟨_,_,_,rfl⟩;have hk:pos+k <=L.length:=by have:=B7 bits (L.drop pos);rw [Lc,bq]at this;simp only at this;omega
 have HB:=V (show IR.pZ L bits ⟨pos,0⟩=(n,⟨pos+k,er⟩)by unfold IR.pZ;simp only [Lc]);obtain⟨q,hq⟩:∃q,L.drop pos=q:=⟨_,rfl⟩;rw [hq]at N3 hi Lc;have HI:=V hi;have HO:=V Lh;clear hi Lh hq;go_enter func297,ntmps297;go_wp2_with fail;refine ef (fun w'=>w'.cell? ⟨R,0,none⟩=some (.slice a L.length cap)/\w'.cell? ⟨R,1,none⟩=some (.int .i64 pos)) (up 0 10 ((10,false)::up 11 7 [])) (by kernel_rfl) (by kernel_rfl) ⟨d0,d1⟩ ?_;iterate 10 (first | (apply sk rfl rfl;simp only [pt]) | (apply dV rfl rfl rfl;·(rintro w' ⟨t0,t1⟩;go_wp2;exact⟨rfl,rfl,rfl⟩)))
 refine ed rfl rfl ?_;go_wp2_with fail;refine(BZ _ q _ _ ((HI.out _ H.out.bytes).below (an _ _).drew) (by omega) (by omega)).mono ?_;rintro e w1 ⟨rfl,hb⟩;have KT:Below w.heap.size w w1:=fN hb;rw [Lc];have Lw:=H.out.1.below KT H.out.1.lt;have d0':w1.cell? ⟨R,0,none⟩=some (.slice a L.length cap):=Lw.cell 0;have d1':w1.cell? ⟨R,1,none⟩=some (.int .i64 pos):=Lw.cell 1;have d2':w1.cell? ⟨R,2,none⟩=some (.int .i64 0):=Lw.cell 2;have z1':=Lw.free 1;have z2':=Lw.free 2;have h1:sC w0 w1 R a cap L ⟨pos,0⟩:=⟨Lw,H.out.2.1,H.out.2.2.1.trans (KT.mono H.out.2.2.1.size),H.out.2.2.2⟩;have H1:=V h1;have HB1:=V KT;clear h1 Lw hb KT d0 d1 d2 z1 z2 N3 Lc;go_wp2_with fail;refine⟨⟨d0',d1'⟩,?_⟩;iterate 7 (first | (apply sk rfl rfl;simp only [pt]) | (apply dV rfl rfl rfl;·(rintro w' ⟨t0,t1⟩;go_wp2;exact⟨rfl,rfl,rfl⟩)))
 refine eL ?_;refine aD ?_;go_wp2_with fail;go_ret;have hk:=(dU.dW (S:=fun k=>k=R) HB1.out).trans ((fh w1 R 1 (.int .i64 ((pos:Int)+k))).trans (fh _ R 2 (.int .i64 er)) (fun _ h=> .inl h)) (fun _ h=> .inl h);have hO:IR.ok L ⟨pos+k,er⟩:=by have:=HO.out;rw [HB.out]at this;exact this
 have h2:=H1.out.set (s':=⟨pos+k,0⟩) (i:=1) (v:= .int .i64 ((pos:Int)+k)) rfl ⟨hO.1,by simp,by simp⟩;exact⟨by rw [HB.out];rfl,by rw [HB.out];exact h2.set rfl hO,hk⟩
theorem DQ (w:World) (l:List Int) (t:TypeId) (hl:l.length <=1000):eg 1 fb (w.alloc (.cells (l.map fun n=>Value.int .i64 n).toArray t)) (.slice (some ⟨w.heap.size,0,none⟩) l.length l.length) l:=by
 refine⟨_,l.length,rfl,ag _,by simp only [maxLen];omega,fun i y hy=>⟨w.heap.size,0,rfl,by simp,fun j u hu=>?_⟩⟩;rw [bQ]
 match j,hu with
 | 0,hu=>
  simp [fb]at hu;simp [hy,hu]
 | j+1,hu=>simp [fb]at hu
theorem yK (v:Value) (l:List Int) (x:Int) (w:World) (hl:eg 1 fb w v l):
  Calls prog 299 #[v, .int .i64 x] w (jU (fun n=>x==n) l w):=by
 have HI:=V hl;obtain⟨a,cap,rfl,h1,h2,_⟩:=id hl;unfold maxLen at h2;clear hl;go_enter func299,ntmps299;go_wp2_with fail;refine eB (fun a' w'=>∃(k:Nat),a'=fr (.slice a l.length cap:: .int .i64 x::gs a' 2 5 (.int .i64 l.length:: .int .i64 k::gs a' 9 10 []))/\pK (fun n=>x==n) l w w' k) (fun a' _=>(l.length - (intOf (a'.tmps.getD 8 undef)).toNat)) ?_ ?_
 ·exact⟨0,rfl,by omega,fun i hi=>by omega,an _ _⟩
 ·skip
  rintro R a' w1 ⟨k,Kw,hJ⟩ HR;dsimp only [fr,gs]at Kw;generalize slot a'=f at Kw;subst Kw;obtain⟨hk,hm,hb⟩:=hJ;have Lv:=V hm;clear hm;by_cases Ls:k < l.length;rotate_left
  ·obtain rfl:k=l.length:=by omega
   go_wp2_with fail;go_ret;exact⟨by rw [gO Lv.out];rfl,hb⟩
  obtain⟨e,he⟩:∃e,l[k]?=some e:=⟨_,aq Ls⟩;obtain⟨a',KR,hv,_,_,Kt⟩:=HI.out.below (hb.mono (ag _));injection hv with e1 e2 e3;subst e1 e3;obtain⟨b,off,rfl,KC,hc⟩:=Kt k e he;have c0:=hc 0 _ rfl;rw [aL,bo]at c0;have HE:=V he;clear Kt e2 he hc;by_cases q:x=e
  ·have f:=eH q
   have HQ:=V (show(x==e)=true from f);clear q;go_wp2_with fail;go_ret;exact⟨by rw [ic HE.out HQ.out Lv.out];rfl,hb⟩
  ·have f:=dS q
   have HQ:=V (show(x==e)=false from f);clear q;go_wp2_with fail;refine HR.out _ _ ⟨k+1,rfl,by omega,?_,hb⟩ ?_
   ·intro i hi d hd
    rcases bC i k with h | h
    ·exact Lv.out i h d hd
    ·obtain rfl:i=k:=by omega
     rw [HE.out]at hd;injection hd with hd;rw [<- hd];exact HQ.out
   ·simp [intOf]
    omega
theorem A7 (w0 w:World) (R:Nat) (a:Option Addr) (cap:Nat) (L:List UInt8) (s:IR) (h:sC w0 w R a cap L s):
  Calls prog 294 #[.pointer (some ⟨R,0,none⟩)] w (yZ w0 w R a cap L (.int .i64 (s.kind L).1) (s.kind L).2):=by
 have Lh:=IR.GY h.2.2.2.2;have HH:=V h;obtain⟨s1,LZ⟩:∃s1,(s.byte L).2=s1:=⟨_,rfl⟩;obtain⟨v1,NO⟩:∃v1,(s.byte L).1=v1:=⟨_,rfl⟩;have HO:=V Lh;have H1:=V LZ;have V1:=V NO;have HK:=V (show s.kind L=if v1=64 then(0,s1)else if v1=127 then(1,s1)else if v1=126 then(2,s1)else(0,if s1.err=0 then⟨s1.pos,1⟩else s1)by unfold IR.kind;rw [LZ,NO]);clear h Lh LZ NO;go_enter func294,ntmps294;go_wp2_with fail;refine(qo w0 _ R a cap L s HH.out).mono ?_;rintro e w1 ⟨rfl,h1,hk⟩;rw [V1.out];rw [H1.out]at h1;have HI1:=V h1;have HK1:=V hk;clear h1 hk;go_wp2_with fail;refine(yK _ [64,127,126] v1 _ (DQ w1 [64,127,126] _ (by simp))).mono ?_;rintro e w2 ⟨rfl,hb⟩;have KT:Below w1.heap.size w1 w2:=((an _ _).alloc (ag _) _).trans (hb.mono (by simp));have h2:sC w0 w2 R a cap L s1:=HI1.out.keeps (dU.dW (S:=fun _=>False) KT) (fun h=>h) (fun _ h=>h.elim);have z2:=h2.1.free 2;have d2:w2.cell? ⟨R,2,none⟩=some (.int .i64 s1.err):=h2.1.cell 2;have NF:=V h2;have LK:=V (HK1.out.trans (dU.dW (S:=fun k=>k=R) KT) (fun _ h=> .inl h));clear h2 hb KT;by_cases q0:v1=64
 ·have hx:sH (fun n=>((v1:Nat):Int)==n) [64,127,126]=0:=by rw [q0];rfl
  replace HK:=V (show s.kind L=(0,s1)by rw [HK.out,aJ q0]);rw [hx];clear hx q0;go_wp2_with fail;go_ret;exact⟨by rw [HK.out];rfl,by rw [HK.out];exact NF.out,LK.out⟩
 by_cases q1:v1=127
 ·have hx:sH (fun n=>((v1:Nat):Int)==n) [64,127,126]=1:=by rw [q1];rfl
  replace HK:=V (show s.kind L=(1,s1)by rw [HK.out,aC q0,aJ q1]);rw [hx];clear hx q0 q1;go_wp2_with fail;go_ret;exact⟨by rw [HK.out];rfl,by rw [HK.out];exact NF.out,LK.out⟩
 by_cases q2:v1=126
 ·have hx:sH (fun n=>((v1:Nat):Int)==n) [64,127,126]=2:=by rw [q2];rfl
  replace HK:=V (show s.kind L=(2,s1)by rw [HK.out,aC q0,aC q1,aJ q2]);rw [hx];clear hx q0 q1 q2;go_wp2_with fail;go_ret;exact⟨by rw [HK.out];rfl,by rw [HK.out];exact NF.out,LK.out⟩
 have hx:sH (fun n=>((v1:Nat):Int)==n) [64,127,126]= -1:=by
  have h0:(((v1:Nat):Int)==64)=false:=dS (by omega);have h1:(((v1:Nat):Int)==127)=false:=dS (by omega);have h2:(((v1:Nat):Int)==126)=false:=dS (by omega);simp [sH,List.findIdx?_cons,h0,h1,h2]
 replace HK:=V (show s.kind L=(0,if s1.err=0 then⟨s1.pos,1⟩else s1)by rw [HK.out,aC q0,aC q1,aC q2]);rw [hx];clear hx q0 q1 q2;by_cases q:s1.err=0
 ·have f:=eH q
  replace HK:=V (show s.kind L=(0,⟨s1.pos,1⟩)by rw [HK.out,aJ q]);clear q;go_wp2_with fail;go_ret;exact⟨by rw [HK.out];rfl,by rw [HK.out];exact NF.out.set rfl (by have:=HO.out;rw [HK.out]at this;exact this),LK.out.trans (fh _ R 2 _) (fun _ h=> .inl h)⟩
 ·have f:=dS q
  replace HK:=V (show s.kind L=(0,s1)by rw [HK.out,aC q]);clear q;go_wp2_with fail;go_ret;exact⟨by rw [HK.out];rfl,by rw [HK.out];exact NF.out,LK.out⟩

section
inductive Ord where
 | nil:Ord
 | cons (i:Nat) (b:Bool) (rest:Ord):Ord
 | fork (i j:Nat) (ri rj:Ord):Ord
def Ord.depth:Ord ->Nat
 | .nil=>0
 | .cons _ _ r=>r.depth+1
 | .fork _ _ a b=>max a.depth b.depth+1
def ord:List (Nat × Bool) ->Ord ->Ord
 | [],r=>r
 | (i,b)::l,r=> .cons i b (ord l r)
def kC (P:Program) (ops:List Oper) (Q:Exit ->Act ->World ->Prop) (S:World ->Prop):Ord ->Act ->World ->Prop
 | .nil,a,w=>Q .normal a w
 | Ord.cons i true rest,a,w=>∃o,nth ops i=some o/\
   ((kW ops o.guard a=true/\∃d,o.dst=some d/\d < a.tmps.size/\∃a',(∀w',S w' ->wpList P #[] (BP a' w') [bare o] a w')/\kC P ops Q S rest a' w)\/
    (kW ops o.guard a=false/\kC P ops Q S rest (a.put o.dst undef) w))
 | Ord.cons i false rest,a,w=>∃o,nth ops i=some o/\
   ((kW ops o.guard a=true/\wpList P #[] (oD Q S (kC P ops Q S rest)) [bare o] a w)\/
    (kW ops o.guard a=false/\kC P ops Q S rest (a.put o.dst undef) w))
 | .fork i j ri rj,a,w=>(∃o,nth ops i=some o/\
   ((kW ops o.guard a=true/\wpList P #[] (oD Q S (kC P ops Q S ri)) [bare o] a w)\/
    (kW ops o.guard a=false/\kC P ops Q S ri (a.put o.dst undef) w)))/\(∃o,nth ops j=some o/\
   ((kW ops o.guard a=true/\wpList P #[] (oD Q S (kC P ops Q S rj)) [bare o] a w)\/
    (kW ops o.guard a=false/\kC P ops Q S rj (a.put o.dst undef) w)))
def pV (ops:Array Oper):Ord ->Array Bool ->Bool
 | .nil,listed=>(Region.ready .any ops listed).isEmpty
 | Ord.cons i true rest,listed=>(ops[i]?.any fun o=>isVal o.op)&&(Region.ready .any ops listed).contains i&&Region.free .any ops listed i&&pV ops rest (listed.setIfInBounds i true)
 | Ord.cons i false rest,listed=>(Region.ready .any ops listed==[i])&&pV ops rest (listed.setIfInBounds i true)
 | .fork i j ri rj,listed=>(Region.ready .any ops listed==[i,j])&&pV ops ri (listed.setIfInBounds i true)&&pV ops rj (listed.setIfInBounds j true)
theorem mU {P:Program} {ops:Array Oper} {Q:Exit ->Act ->World ->Prop} {S:World ->Prop} {j:Nat} {K K':Act ->World ->Prop} {a:Act} {w:World} (hS:S w) (hK:∀a w,S w ->K a w ->K' a w)
  (h:∃o,nth ops.toList j=some o/\((kW ops.toList o.guard a=true/\wpList P #[] (oD Q S K) [bare o] a w)\/(kW ops.toList o.guard a=false/\K (a.put o.dst undef) w))):
  wpOp P ops Q j (fun a' w'=>S w'/\K' a' w') a w:=by
 obtain⟨o,ho,h⟩:=h;rw [ou,cA]at ho;unfold wpOp;simp only [ho];rw [mr];rcases h with⟨hg,hw⟩ | ⟨hg,hk⟩
 ·rw [aJ hg]
  have LX:∀a' w',oD Q S K .normal a' w' ->S w'/\K' a' w':=fun a' w' h=>⟨h.1,hK _ _ h.1 h.2⟩;have N9:LetsOut (oD Q S K) ->LetsOut Q:=fun⟨a,w,h⟩=>⟨a,w,h⟩;rcases ml hw with h1 | ⟨h1,h2⟩
  ·left
   unfold Oper.wp at h1⊢;rw [iL]at h1;generalize(execOp a.eval o).run P w=r at*;cases r with
   | ok n w'=>
    cases n <;>simp only [Oper.upon]at h1⊢
    case value=>exact LX _ _ h1
    case skip=>exact LX _ _ h1
    case defer=>exact LX _ _ h1
    case enter=>
     refine bV h1 fun e w'' he=>?_;cases e with
     | returned v=>exact LX _ _ he
     | panicked c=>exact he.elim
     | outgrown=>exact N9 he
    case row=>exact Rows.mono h1 fun v w'' he=>LX _ _ he
   | halt x w'=>
    cases x <;>simp only [Oper.upon]at h1⊢
    case panic=>exact h1.elim
  ·exact .inr ⟨h1,N9 h2⟩
 ·rw [aC (by rw [hg];simp)]
  exact⟨hS,hK _ _ hS hk⟩
theorem lp {P:Program} {ops:Array Oper} {Q:Exit ->Act ->World ->Prop} {S:World ->Prop} (hQ:∀c a w,¬ Q (.panic c) a w) (hs:Region.noSelect ops=true):
  ∀(l:Ord) (fuel:Nat) (listed:Array Bool) (a:Act) (w:World),l.depth <=fuel ->pV ops l listed=true ->S w ->
   kC P ops.toList Q S l a w ->wpAnyH P .any ops Q S fuel listed a w
 | .nil,fuel,listed,a,w,_,KF,_,h=>by
  simp only [pV,List.isEmpty_iff]at KF;exact wpAnyH_done KF h fuel
 | Ord.cons i true rest,0,_,_,_,hl,_,_,_=>by simp [Ord.depth]at hl
 | Ord.cons i false rest,0,_,_,_,hl,_,_,_=>by simp [Ord.depth]at hl
 | Ord.cons i true rest,fuel+1,listed,a,w,hl,KF,hS,h=>by
  simp only [pV,bM]at KF;obtain⟨⟨⟨hv,hr⟩,hf⟩,Lu⟩:=KF;simp only [Ord.depth]at hl;obtain⟨o,ho,h⟩:=h;rw [ou,cA]at ho;rw [ho]at hv;simp only [Option.any_some]at hv;rcases h with⟨hg,d,hd,hds,a',hp,hk⟩ | ⟨hg,hk⟩
  ·refine wpAnyH_take (v:=a'.tmps.getD d undef) ho hs hf hr (fun c a w h=>(hQ _ _ _ h).elim) (.inl ⟨by rw [mr];exact hg,fun w' hw'=>?_⟩) hS ?_
   ·rcases ml (hp w' hw')with h1 | ⟨_,h2⟩
    ·unfold Oper.wp at h1
     rw [iL]at h1;rcases mB (P:=P) (ρ:=a.eval) hv w' with⟨v,w2,KH⟩ | ⟨x,w2,KH⟩
     ·rw [KH]at h1⊢
      obtain⟨_,h3,h4⟩:=h1;subst h4;subst h3;have:(bare o).dst=some d:=hd;rw [this];simp [Act.put,hds]
     ·rw [KH]at h1
      cases x <;>simp only [Oper.upon]at h1
      case panic=>exact absurd h1.1 (by simp)
    ·obtain⟨_,_,h3,_⟩:=h2
     exact absurd h3 (by simp)
   ·have ha:a.put o.dst (a'.tmps.getD d undef)=a':=by
     rcases ml (hp w hS)with h1 | ⟨_,h2⟩
     ·unfold Oper.wp at h1
      rw [iL]at h1;rcases mB (P:=P) (ρ:=a.eval) hv w with⟨v,w2,KH⟩ | ⟨x,w2,KH⟩
      ·rw [KH]at h1
       obtain⟨_,h3,h4⟩:=h1;have hd':(bare o).dst=some d:=hd;rw [<- h3,hd',hd];simp [Act.put,hds]
      ·rw [KH]at h1
       cases x <;>simp only [Oper.upon]at h1
       case panic=>exact absurd h1.1 (by simp)
     ·obtain⟨_,_,h3,_⟩:=h2
      exact absurd h3 (by simp)
    rw [ha];exact lp hQ hs rest fuel _ _ _ (by omega) Lu hS hk
  ·refine wpAnyH_take (v:=undef) ho hs hf hr (fun c a w h=>(hQ _ _ _ h).elim) (.inr ⟨by rw [mr];exact hg,rfl⟩) hS ?_
   exact lp hQ hs rest fuel _ _ _ (by omega) Lu hS hk
 | Ord.cons i false rest,fuel+1,listed,a,w,hl,KF,hS,h=>by
  simp only [pV,bM,dE]at KF;obtain⟨hr,Lu⟩:=KF;simp only [Ord.depth]at hl;obtain⟨o,ho,h⟩:=h;rw [ou,cA]at ho;refine wpAnyH_all hr (by simp) fun j hj=>?_;obtain rfl:j=i:=by simpa using hj
  unfold wpOp;simp only [ho];rw [mr];rcases h with⟨hg,hw⟩ | ⟨hg,hk⟩
  ·rw [aJ hg]
   have LX:∀a' w',oD Q S (kC P ops.toList Q S rest) .normal a' w' ->S w'/\wpAnyH P .any ops Q S fuel (listed.setIfInBounds j true) a' w':=
    fun a' w' h=>⟨h.1,lp hQ hs rest fuel _ _ _ (by omega) Lu h.1 h.2⟩
   have N9:LetsOut (oD Q S (kC P ops.toList Q S rest)) ->LetsOut Q:=fun⟨a,w,h⟩=>⟨a,w,h⟩;rcases ml hw with h1 | ⟨h1,h2⟩
   ·left
    unfold Oper.wp at h1⊢;rw [iL]at h1;generalize(execOp a.eval o).run P w=r at*;cases r with
    | ok n w'=>
     cases n <;>simp only [Oper.upon]at h1⊢
     case value=>exact LX _ _ h1
     case skip=>exact LX _ _ h1
     case defer=>exact LX _ _ h1
     case enter=>
      refine bV h1 fun e w'' he=>?_;cases e with
      | returned v=>exact LX _ _ he
      | panicked c=>exact he.elim
      | outgrown=>exact N9 he
     case row=>exact Rows.mono h1 fun v w'' he=>LX _ _ he
    | halt x w'=>
     cases x <;>simp only [Oper.upon]at h1⊢
     case panic=>exact h1.elim
   ·exact .inr ⟨h1,N9 h2⟩
  ·rw [aC (by rw [hg];simp)]
   exact⟨hS,lp hQ hs rest fuel _ _ _ (by omega) Lu hS hk⟩
 | .fork i j ri rj,0,_,_,_,hl,_,_,_=>by simp [Ord.depth]at hl
 | .fork i j ri rj,fuel+1,listed,a,w,hl,KF,hS,h=>by
  simp only [pV,bM,dE]at KF;obtain⟨⟨hr,hok1⟩,hok2⟩:=KF;simp only [Ord.depth]at hl;refine wpAnyH_all hr (by simp) fun k hk=>?_;rcases(by simpa using hk:k=i\/k=j)with rfl | rfl
  ·exact mU hS (fun a w hS h=>lp hQ hs ri fuel _ a w (by omega) hok1 hS h) h.1
  ·exact mU hS (fun a w hS h=>lp hQ hs rj fuel _ a w (by omega) hok2 hS h) h.2
theorem lC {P:Program} {ops:List Oper} {Q:Exit ->Act ->World ->Prop} {id:Nat} {a:Act} {w:World} (S:World ->Prop) (l:Ord) (hm:P.follows .mixedOrders=true)
  (KF:(pV ops.toArray l (Array.replicate ops.length false)&&Region.noSelect ops.toArray&&decide (l.depth <=ops.length))=true) (hS:S w.drew)
  (h:kC P ops (NoPanic Q) S l a w.drew):(Code.region id ops.toArray true).wp P Q a w:=by
 simp only [bM,dm]at KF;obtain⟨⟨KF,hn⟩,hl⟩:=KF;refine wp_region_noPanic (wp_region_held (S:=S) hm ?_);refine lp (S:=S) (fun c a w h=>h) hn l _ _ a _ ?_ ?_ hS ?_
 ·simpa using hl
 ·simpa using KF
 ·simpa using h
section
variable {P:Program} {ops:List Oper} {Q:Exit ->Act ->World ->Prop} {S:World ->Prop} {i:Nat} {rest:Ord} {a:Act} {w:World} {d:Tmp} {op:Op} {t:TypeId} {p:String} {af:Array Edge} {g:Option (Nat × Bool)}
theorem iy (hi:nth ops i=some ⟨some d,op,t,p,af,g⟩) (hg:kW ops g a=true) (hd:Nat.ble (d+1) a.tmps.size=true) {a':Act} (hp:∀w',S w' ->wpList P #[] (BP a' w') [⟨some d,op,t,p,#[],none⟩] a w')
  (h:kC P ops Q S rest a' w):kC P ops Q S (.cons i true rest) a w:=
 ⟨_,hi, .inl ⟨hg,d,rfl,Nat.le_of_ble_eq_true hd,a',hp,h⟩⟩
theorem fL {dst:Option Tmp} (hi:nth ops i=some ⟨dst,op,t,p,af,g⟩) (hg:kW ops g a=true) (h:wpList P #[] (oD Q S (kC P ops Q S rest)) [⟨dst,op,t,p,#[],none⟩] a w):kC P ops Q S (.cons i false rest) a w:=
 ⟨_,hi, .inl ⟨hg,h⟩⟩
theorem mo (h:Q .normal a w):kC P ops Q S .nil a w:=h
theorem po {i j:Nat} {ri rj:Ord} {oi oj:Oper} (hi:nth ops i=some oi) (hj:nth ops j=some oj) (gi:kW ops oi.guard a=true) (gj:kW ops oj.guard a=true)
  (h1:wpList P #[] (oD Q S (kC P ops Q S ri)) [⟨oi.dst,oi.op,oi.type,oi.pos,#[],none⟩] a w) (h2:wpList P #[] (oD Q S (kC P ops Q S rj)) [⟨oj.dst,oj.op,oj.type,oj.pos,#[],none⟩] a w):
  kC P ops Q S (.fork i j ri rj) a w:=
 ⟨⟨_,hi, .inl ⟨gi,h1⟩⟩,⟨_,hj, .inl ⟨gj,h2⟩⟩⟩
end
end
end Go.Proofs.YthbjdhjppbcneaaGreatDoor
