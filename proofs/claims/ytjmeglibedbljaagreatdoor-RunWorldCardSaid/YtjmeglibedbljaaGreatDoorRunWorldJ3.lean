import Derived.Test.YtjmeglibedbljaaGreatDoorRunWorldJ2
namespace Go.Proofs.YtjmeglibedbljaaGreatDoor
set_option maxRecDepth 100000
set_option maxHeartbeats 20000000
open Go.RowKit Tryz
open Lib renaming hid->V
set_option linter.all false
def pA {α:Type} (la lb:List α) (w:World) (e:Ending) (w':World):Prop:=∃r:Bool,e= .returned (.bool r)/\(r=true↔la=lb)/\Below w.heap.size w w'
def CA {α:Type} (la lb:List α) (w w':World) (k:Nat):Prop:=k <=la.length/\la.take k=lb.take k/\Below w.heap.size w w'
def uy (b off b2 NR k:Nat) (e d:fi) (w:World):Prop:=
 (w.cell? ⟨b,off+k*2,none⟩=some (.int .i64 e.kind)/\w.cell? ⟨b,off+k*2+1,none⟩=some (.int .i64 e.n))/\
 w.cell? ⟨b2,NR+k*2,none⟩=some (.int .i64 d.kind)/\w.cell? ⟨b2,NR+k*2+1,none⟩=some (.int .i64 d.n)
def rW (b off b2 NR k:Nat) (e d:lA) (w:World):Prop:=
 (w.cell? ⟨b,off+k*2,none⟩=some (.int .i64 e.pos)/\w.cell? ⟨b,off+k*2+1,none⟩=some (.int .i64 e.fb))/\
 w.cell? ⟨b2,NR+k*2,none⟩=some (.int .i64 d.pos)/\w.cell? ⟨b2,NR+k*2+1,none⟩=some (.int .i64 d.fb)
theorem tT (va vb:Value) (la lb:List fi) (w:World) (ha:eA 2 fR w va la) (hb:eA 2 fR w vb lb):Calls prog 251 #[va,vb] w (pA la lb w):=by
 have HA:=V ha;have HB:=V hb;obtain⟨a,cap,rfl,h1,h2,_⟩:=ha;obtain⟨a2,Nr,rfl,h3,h4,_⟩:=hb;unfold maxLen at h2 h4;by_cases hlen:la.length=lb.length;rotate_left
 ·have f1:(((la.length:Int)) !=((lb.length:Int)))=true:=fB (by omega)
  have HL:=V hlen;clear hlen;go_enter func251,ntmps251;go_wp2;go_ret;exact⟨false,rfl,⟨fun h=>(by cases h),fun h=>absurd (cY List.length h) HL.out⟩,an _ _⟩
 rw [<- hlen]at h3⊢;have HL:=V hlen;clear hlen;go_enter func251,ntmps251;go_wp2_with fail;refine eR (fun a' w'=>∃(k:Nat),a'=fr (.slice a la.length cap:: .slice a2 la.length Nr::gs a' 2 10 (.int .i64 la.length:: .int .i64 k::gs a' 14 12 []))/\CA la lb w w' k) (fun a' _=>(la.length - (intOf (a'.tmps.getD 13 undef)).toNat)) ?_ ?_
 ·exact⟨0,rfl,by omega,rfl,an _ _⟩
 ·skip
  rintro R a' w1 ⟨k,Nm,hJ⟩ HR;dsimp only [fr,gs]at Nm;generalize slot a'=f at Nm;subst Nm;obtain⟨hk,QT,hb⟩:=hJ;have HT:=V QT;clear QT;by_cases N8:k < la.length;rotate_left
  ·obtain rfl:k=la.length:=by omega
   go_wp2;go_ret;refine⟨true,rfl,⟨fun _=>?_,fun _=>rfl⟩,hb⟩;have:=HT.out;rw [aU,HL.out,aU]at this;exact this
  obtain⟨e,he⟩:∃e,la[k]?=some e:=⟨_,aq N8⟩;obtain⟨d,hd⟩:∃d,lb[k]?=some d:=⟨_,aq (by have:=HL.out;omega)⟩;obtain⟨a',NK,hv,_,_,Nk⟩:=HA.out.below (hb.mono (ag _));obtain⟨a2',cap2',OI,_,_,Ok⟩:=HB.out.below (hb.mono (ag _));injection hv with e1 e2 e3;injection OI with e4 e5 e6;subst e1 e3 e4 e6;obtain⟨b,off,rfl,Nu,hc⟩:=Nk k e he;obtain⟨b2,NR,rfl,O3,Ow⟩:=Ok k d hd;have c0:=hc 0 _ rfl;have c1:=hc 1 _ rfl;have c2:=Ow 0 _ rfl;have c3:=Ow 1 _ rfl;rw [aJ]at c0 c2;have HE:=V he;have HD:=V hd;have cc:uy b off b2 NR k e d w1.drew:=⟨⟨c0,c1⟩,c2,c3⟩;have CC:=V cc;clear Nk Ok e2 e5 he hd hc Ow c0 c1 c2 c3 cc;by_cases q1:e.kind=d.kind
  ·have f1:=eV q1
   have Q1:=V q1;clear q1;by_cases q2:e.n=d.n
   ·have f2:=eV q2
    have Q2:=V q2;clear q2;go_wp2_with fail;refine eB (uy b off b2 NR k e d) (up 0 9 []) (by kernel_rfl) (by kernel_rfl) CC.out ?_;iterate 8 (first | (apply sk rfl rfl;simp only [pt]) | (apply eo rfl rfl rfl;·(rintro w' ⟨⟨t0,t1⟩,t2,t3⟩;go_wp2;exact⟨rfl,rfl,rfl⟩)))
    iterate 1 (first | (apply sk rfl rfl;simp only [pt]) | (apply eo rfl rfl rfl;·(rintro w' ⟨⟨t0,t1⟩,t2,t3⟩;go_wp2;exact⟨rfl,rfl,rfl⟩)))
    refine eW ?_;refine aA ?_;go_wp2;refine HR.out _ _ ⟨k+1,rfl,by omega,?_,hb.drew⟩ ?_
    ·rw [aR,aR,HT.out,HE.out,HD.out]
     obtain⟨x0,x1⟩:=e;obtain⟨y0,y1⟩:=d;have g0:=Q1.out;have g1:=Q2.out;simp only at g0 g1;rw [g0,g1]
    ·simp [intOf]
     omega
   ·have f2:=eh q2
    have HX:=V (show e.n≠d.n from q2);clear q2;go_wp2_with fail;refine eB (uy b off b2 NR k e d) (up 0 9 []) (by kernel_rfl) (by kernel_rfl) CC.out ?_;iterate 8 (first | (apply sk rfl rfl;simp only [pt]) | (apply eo rfl rfl rfl;·(rintro w' ⟨⟨t0,t1⟩,t2,t3⟩;go_wp2;exact⟨rfl,rfl,rfl⟩)))
    iterate 1 (first | (apply sk rfl rfl;simp only [pt]) | (apply eo rfl rfl rfl;·(rintro w' ⟨⟨t0,t1⟩,t2,t3⟩;go_wp2;exact⟨rfl,rfl,rfl⟩)))
    refine eW ?_;refine aA ?_;go_wp2;go_ret;refine⟨false,rfl,⟨fun h=>(by cases h),fun h=>?_⟩,hb.drew⟩;have h1:=HE.out;rw [h,HD.out]at h1;injection h1 with h1;exact(HX.out (by rw [h1])).elim
  ·have f1:=eh q1
   have HX:=V (show e.kind≠d.kind from q1);clear q1;go_wp2_with fail;refine eB (uy b off b2 NR k e d) (up 0 9 []) (by kernel_rfl) (by kernel_rfl) CC.out ?_;iterate 8 (first | (apply sk rfl rfl;simp only [pt]) | (apply eo rfl rfl rfl;·(rintro w' ⟨⟨t0,t1⟩,t2,t3⟩;go_wp2;exact⟨rfl,rfl,rfl⟩)))
   iterate 1 (first | (apply sk rfl rfl;simp only [pt]) | (apply eo rfl rfl rfl;·(rintro w' ⟨⟨t0,t1⟩,t2,t3⟩;go_wp2;exact⟨rfl,rfl,rfl⟩)))
   refine eW ?_;refine aA ?_;go_wp2;go_ret;refine⟨false,rfl,⟨fun h=>(by cases h),fun h=>?_⟩,hb.drew⟩;have h1:=HE.out;rw [h,HD.out]at h1;injection h1 with h1;exact(HX.out (by rw [h1])).elim
theorem zD (va vb:Value) (la lb:List lA) (w:World) (ha:eA 2 kP w va la) (hb:eA 2 kP w vb lb):Calls prog 254 #[va,vb] w (pA la lb w):=by
 have HA:=V ha;have HB:=V hb;obtain⟨a,cap,rfl,h1,h2,_⟩:=ha;obtain⟨a2,Nr,rfl,h3,h4,_⟩:=hb;unfold maxLen at h2 h4;by_cases hlen:la.length=lb.length;rotate_left
 ·have f1:(((la.length:Int)) !=((lb.length:Int)))=true:=fB (by omega)
  have HL:=V hlen;clear hlen;go_enter func254,ntmps254;go_wp2;go_ret;exact⟨false,rfl,⟨fun h=>(by cases h),fun h=>absurd (cY List.length h) HL.out⟩,an _ _⟩
 rw [<- hlen]at h3⊢;have HL:=V hlen;clear hlen;go_enter func254,ntmps254;go_wp2_with fail;refine eR (fun a' w'=>∃(k:Nat),a'=fr (.slice a la.length cap:: .slice a2 la.length Nr::gs a' 2 10 (.int .i64 la.length:: .int .i64 k::gs a' 14 12 []))/\CA la lb w w' k) (fun a' _=>(la.length - (intOf (a'.tmps.getD 13 undef)).toNat)) ?_ ?_
 ·exact⟨0,rfl,by omega,rfl,an _ _⟩
 ·skip
  rintro R a' w1 ⟨k,Nm,hJ⟩ HR;dsimp only [fr,gs]at Nm;generalize slot a'=f at Nm;subst Nm;obtain⟨hk,QT,hb⟩:=hJ;have HT:=V QT;clear QT;by_cases N8:k < la.length;rotate_left
  ·obtain rfl:k=la.length:=by omega
   go_wp2;go_ret;refine⟨true,rfl,⟨fun _=>?_,fun _=>rfl⟩,hb⟩;have:=HT.out;rw [aU,HL.out,aU]at this;exact this
  obtain⟨e,he⟩:∃e,la[k]?=some e:=⟨_,aq N8⟩;obtain⟨d,hd⟩:∃d,lb[k]?=some d:=⟨_,aq (by have:=HL.out;omega)⟩;obtain⟨a',NK,hv,_,_,Nk⟩:=HA.out.below (hb.mono (ag _));obtain⟨a2',cap2',OI,_,_,Ok⟩:=HB.out.below (hb.mono (ag _));injection hv with e1 e2 e3;injection OI with e4 e5 e6;subst e1 e3 e4 e6;obtain⟨b,off,rfl,Nu,hc⟩:=Nk k e he;obtain⟨b2,NR,rfl,O3,Ow⟩:=Ok k d hd;have c0:=hc 0 _ rfl;have c1:=hc 1 _ rfl;have c2:=Ow 0 _ rfl;have c3:=Ow 1 _ rfl;rw [aJ]at c0 c2;have HE:=V he;have HD:=V hd;have cc:rW b off b2 NR k e d w1.drew:=⟨⟨c0,c1⟩,c2,c3⟩;have CC:=V cc;clear Nk Ok e2 e5 he hd hc Ow c0 c1 c2 c3 cc;by_cases q1:e.pos=d.pos
  ·have f1:=eV q1
   have Q1:=V q1;clear q1;by_cases q2:e.fb=d.fb
   ·have f2:=eV q2
    have Q2:=V q2;clear q2;go_wp2_with fail;refine eB (rW b off b2 NR k e d) (up 0 9 []) (by kernel_rfl) (by kernel_rfl) CC.out ?_;iterate 8 (first | (apply sk rfl rfl;simp only [pt]) | (apply eo rfl rfl rfl;·(rintro w' ⟨⟨t0,t1⟩,t2,t3⟩;go_wp2;exact⟨rfl,rfl,rfl⟩)))
    iterate 1 (first | (apply sk rfl rfl;simp only [pt]) | (apply eo rfl rfl rfl;·(rintro w' ⟨⟨t0,t1⟩,t2,t3⟩;go_wp2;exact⟨rfl,rfl,rfl⟩)))
    refine eW ?_;refine aA ?_;go_wp2;refine HR.out _ _ ⟨k+1,rfl,by omega,?_,hb.drew⟩ ?_
    ·rw [aR,aR,HT.out,HE.out,HD.out]
     obtain⟨x0,x1⟩:=e;obtain⟨y0,y1⟩:=d;have g0:=Q1.out;have g1:=Q2.out;simp only at g0 g1;rw [g0,g1]
    ·simp [intOf]
     omega
   ·have f2:=eh q2
    have HX:=V (show e.fb≠d.fb from q2);clear q2;go_wp2_with fail;refine eB (rW b off b2 NR k e d) (up 0 9 []) (by kernel_rfl) (by kernel_rfl) CC.out ?_;iterate 8 (first | (apply sk rfl rfl;simp only [pt]) | (apply eo rfl rfl rfl;·(rintro w' ⟨⟨t0,t1⟩,t2,t3⟩;go_wp2;exact⟨rfl,rfl,rfl⟩)))
    iterate 1 (first | (apply sk rfl rfl;simp only [pt]) | (apply eo rfl rfl rfl;·(rintro w' ⟨⟨t0,t1⟩,t2,t3⟩;go_wp2;exact⟨rfl,rfl,rfl⟩)))
    refine eW ?_;refine aA ?_;go_wp2;go_ret;refine⟨false,rfl,⟨fun h=>(by cases h),fun h=>?_⟩,hb.drew⟩;have h1:=HE.out;rw [h,HD.out]at h1;injection h1 with h1;exact(HX.out (by rw [h1])).elim
  ·have f1:=eh q1
   have HX:=V (show e.pos≠d.pos from q1);clear q1;go_wp2_with fail;refine eB (rW b off b2 NR k e d) (up 0 9 []) (by kernel_rfl) (by kernel_rfl) CC.out ?_;iterate 8 (first | (apply sk rfl rfl;simp only [pt]) | (apply eo rfl rfl rfl;·(rintro w' ⟨⟨t0,t1⟩,t2,t3⟩;go_wp2;exact⟨rfl,rfl,rfl⟩)))
   iterate 1 (first | (apply sk rfl rfl;simp only [pt]) | (apply eo rfl rfl rfl;·(rintro w' ⟨⟨t0,t1⟩,t2,t3⟩;go_wp2;exact⟨rfl,rfl,rfl⟩)))
   refine eW ?_;refine aA ?_;go_wp2;go_ret;refine⟨false,rfl,⟨fun h=>(by cases h),fun h=>?_⟩,hb.drew⟩;have h1:=HE.out;rw [h,HD.out]at h1;injection h1 with h1;exact(HX.out (by rw [h1])).elim
section
section
variable {α β:Type} {k:Nat} {enc:α × β ->List Value} {inner:World ->α ->β ->Prop}
def eD (k:Nat) (enc:α × β ->List Value) (inner:World ->α ->β ->Prop) (w:World) (v:Value) (l:List α):Prop:=
 ∃us:List β,us.length=l.length/\eA k enc w v (l.zip us)/\∀(i:Nat) (x:α) (u:β),l[i]?=some x ->us[i]?=some u ->inner w x u
theorem eD.below {w w':World} {v:Value} {l:List α} (h:eD k enc inner w v l) (hb:Below w.heap.size w w') (hi:∀x u,inner w x u ->inner w' x u):eD k enc inner w' v l:=by
 obtain⟨us,h1,h2,h3⟩:=h;exact⟨us,h1,h2.below hb,fun i x u hx hu=>hi x u (h3 i x u hx hu)⟩
theorem eD.nil (w:World):eD k enc inner w (.slice none 0 0) []:=⟨[],rfl,eA.nil w,by simp⟩
theorem eD.slice {w:World} {v:Value} {l:List α} (h:eD k enc inner w v l):∃a cap,v= .slice a l.length cap/\l.length <=cap/\cap <=9223372036854775807:=by
 obtain⟨us,h1,⟨a,cap,hv,h2,h3,_⟩,_⟩:=h;have:(l.zip us).length=l.length:=by rw [bV,h1,cV]
 rw [this]at hv h2;exact⟨a,cap,hv,h2,h3⟩
theorem eD.get {w:World} {a:Option Addr} {n cap:Nat} {l:List α} (h:eD k enc inner w (.slice a n cap) l) {i:Nat} {x:α} (hx:l[i]?=some x):
  ∃b off u,a=some ⟨b,off,none⟩/\b < w.heap.size/\(∀j v,(enc (x,u))[j]?=some v ->w.cell? ⟨b,off+i*k+j,none⟩=some v)/\inner w x u:=by
 obtain⟨us,h1,⟨a',NK,hv,_,_,h2⟩,h3⟩:=h;injection hv with e1 e2 e3;subst e1;obtain⟨u,hu⟩:∃u,us[i]?=some u:=⟨_,aq (by rw [h1];exact(aG.1 hx).1)⟩;obtain⟨b,off,ha,Nu,hc⟩:=h2 i (x,u) ((cI (z:=(x,u))).2 ⟨hx,hu⟩);exact⟨b,off,u,ha,Nu,hc,h3 i x u hx hu⟩
end
end
structure fa where
 op:Int
 a:Int
 b:Int
 l:List Int
deriving DecidableEq
def qO (x:fa × Value):List Value:=[.int .i64 x.1.op, .int .i64 x.1.a, .int .i64 x.1.b,x.2]
def fa.ok (x:fa):Prop:=iV x.op/\iV x.a/\iV x.b/\∀n∈x.l,iV n
def gY (w:World) (x:fa) (u:Value):Prop:=eA 1 fk w u x.l/\x.ok
def gN (w:World) (v:Value) (l:List fa):Prop:=eD 4 qO gY w v l
theorem gY.below {w w':World} {x:fa} {u:Value} (h:gY w x u) (hb:Below w.heap.size w w'):gY w' x u:=⟨h.1.below hb,h.2⟩
theorem gN.below {w w':World} {v:Value} {l:List fa} (h:gN w v l) (hb:Below w.heap.size w w'):gN w' v l:=eD.below h hb (fun _ _ h=>h.below hb)
structure gC where
 params:List Int
 results:List Int
deriving DecidableEq
def pU (x:gC × Value × Value):List Value:=[x.2.1,x.2.2]
def gC.ok (x:gC):Prop:=(∀n∈x.params,iV n)/\∀n∈x.results,iV n
def hI (w:World) (x:gC) (u:Value × Value):Prop:=(eA 1 fk w u.1 x.params/\eA 1 fk w u.2 x.results)/\x.ok
def uB (w:World) (v:Value) (l:List gC):Prop:=eD 2 pU hI w v l
theorem hI.below {w w':World} {x:gC} {u:Value × Value} (h:hI w x u) (hb:Below w.heap.size w w'):hI w' x u:=⟨⟨h.1.1.below hb,h.1.2.below hb⟩,h.2⟩
theorem uB.below {w w':World} {v:Value} {l:List gC} (h:uB w v l) (hb:Below w.heap.size w w'):uB w' v l:=eD.below h hb (fun _ _ h=>h.below hb)
structure kj where
 mod:ByteArray
 name:ByteArray
 type:Int
deriving DecidableEq
def rR (x:kj):List Value:=[.string x.mod, .string x.name, .int .i64 x.type]
structure gl where
 has:Bool
 min:Int
 max:Int
deriving DecidableEq
def gl.ok (x:gl):Prop:=iV x.min/\iV x.max
structure jY where
 isVar:Bool
 init:fi
deriving DecidableEq
def rL (x:jY):List Value:=[.bool x.isVar, .int .i64 x.init.kind, .int .i64 x.init.n]
structure jr where
 name:ByteArray
 func:Int
deriving DecidableEq
def pS (x:jr):List Value:=[.string x.name, .int .i64 x.func]
structure jI where
 off:Int
 funcs:List Int
deriving DecidableEq
def sq (x:jI × Value):List Value:=[.int .i64 x.1.off,x.2]
def jI.ok (x:jI):Prop:=iV x.off/\∀n∈x.funcs,iV n
def il (w:World) (x:jI) (u:Value):Prop:=eA 1 fk w u x.funcs/\x.ok
theorem il.below {w w':World} {x:jI} {u:Value} (h:il w x u) (hb:Below w.heap.size w w'):il w' x u:=⟨h.1.below hb,h.2⟩
structure ij where
 locals:List Int
 body:List fa
deriving DecidableEq
def pV (x:ij × Value × Value):List Value:=[x.2.1,x.2.2]
def gW (w:World) (x:ij) (u:Value × Value):Prop:=(eA 1 fk w u.1 x.locals/\gN w u.2 x.body)/\∀n∈x.locals,iV n
theorem gW.below {w w':World} {x:ij} {u:Value × Value} (h:gW w x u) (hb:Below w.heap.size w w'):gW w' x u:=⟨⟨h.1.1.below hb,h.1.2.below hb⟩,h.2⟩
structure iq where
 off:Int
 bytes:List UInt8
deriving DecidableEq
def ou (x:iq × Value):List Value:=[.int .i64 x.1.off,x.2]
def gG (w:World) (x:iq) (u:Value):Prop:=eZ w u x.bytes/\iV x.off
theorem gG.below {w w':World} {x:iq} {u:Value} (h:gG w x u) (hb:Below w.heap.size w w'):gG w' x u:=⟨h.1.below hb,h.2⟩
structure eI where
 types:List gC
 imports:List kj
 funcs:List Int
 table:gl
 mem:gl
 globals:List jY
 ey:List jr
 elems:List jI
 eF:List ij
 eP:List iq
deriving DecidableEq
def eI.ok (m:eI):Prop:=(∀x∈m.imports,iV x.type)/\(∀n∈m.funcs,iV n)/\m.table.ok/\m.mem.ok/\(∀x∈m.globals,x.init.ok)/\∀x∈m.ey,iV x.func
structure eT where
 types:Value
 imports:Value
 funcs:Value
 globals:Value
 ey:Value
 elems:Value
 eF:Value
 eP:Value
def eT.cells (u:eT) (m:eI):Array Value:=
 #[u.types,u.imports,u.funcs, .bool m.table.has, .int .i64 m.table.min, .int .i64 m.table.max, .bool m.mem.has, .int .i64 m.mem.min, .int .i64 m.mem.max,u.globals,u.ey,u.elems,u.eF,u.eP]
def eG (w:World) (u:eT) (m:eI):Prop:=
 uB w u.types m.types/\eA 3 rR w u.imports m.imports/\eA 1 fk w u.funcs m.funcs/\eA 3 rL w u.globals m.globals/\eA 2 pS w u.ey m.ey/\eD 2 sq il w u.elems m.elems/\eD 2 pV gW w u.eF m.eF/\eD 2 ou gG w u.eP m.eP/\m.ok
theorem eG.below {w w':World} {u:eT} {m:eI} (h:eG w u m) (hb:Below w.heap.size w w'):eG w' u m:=by
 obtain⟨h1,h2,h3,h4,h5,h6,h7,h8,h9⟩:=h;exact⟨h1.below hb,h2.below hb,h3.below hb,h4.below hb,h5.below hb,h6.below hb (fun _ _ h=>h.below hb),h7.below hb (fun _ _ h=>h.below hb),h8.below hb (fun _ _ h=>h.below hb),h9⟩
def mE (n a b:Int):Bool:=decide (a <=n)&&decide (n <=b)
theorem kb {n a b:Int}:mE n a b=true↔a <=n/\n <=b:=by simp [mE]
def tR (op:Int):Int × Int:=
 if mE op 69 79 || mE op 103 120 then(1,op)else if mE op 80 90 then(2,op - 80+69)else if mE op 121 138 then(2,op - 121+103)else(0,0)
def fh (op:Int):List Int × Int × Bool:=
 if op=167 then([2],1,true)else if op=172 then([1],2,true)else if op=173 then([1],2,true)else if(tR op).1=0 then([],0,false)else if(tR op).2=69 then([(tR op).1],1,true)
 else if mE (tR op).2 70 79 then([(tR op).1,(tR op).1],1,true)else if mE (tR op).2 103 105 then([(tR op).1],(tR op).1,true)else([(tR op).1,(tR op).1],(tR op).1,true)
theorem Cm {op:Int} (h:(fh op).2.2=true):69 <=op/\op <=173:=by
 unfold fh at h;by_cases h1:op=167
 ·omega
 rw [az h1]at h;by_cases h2:op=172
 ·omega
 rw [az h2]at h;by_cases h3:op=173
 ·omega
 rw [az h3]at h;by_cases h4:(tR op).1=0
 ·rw [aE h4]at h
  simp at h
 unfold tR at h4;by_cases g1:(mE op 69 79 || mE op 103 120)=true
 ·simp only [dQ,kb]at g1
  omega
 rw [az g1]at h4;by_cases g2:mE op 80 90=true
 ·rw [kb]at g2
  omega
 rw [az g2]at h4;by_cases g3:mE op 121 138=true
 ·rw [kb]at g3
  omega
 rw [az g3]at h4;exact absurd rfl h4
theorem vS (u:Nat) (rest:List UInt8) (hu:u < 4294967296):iB 32 (ff u++rest)=(u,(ff u).length,0):=by
 obtain⟨p,z,h1,h2,h3,h4⟩:=su 9 u (by omega);change ff u=p++[z]at h1;have hp:p.length <=4:=by
  rcases sP 10 u (by omega)with h | h
  ·change(ff u).length <=1 at h
   rw [h1]at h;simp at h;simp [h]
  ·change 128^((ff u).length - 1) <=u at h
   rw [h1,ah,aB,di]at h;rcases bz 4 p.length with g | g
   ·have:(128:Nat)^5 <=128^p.length:=cP (by omega) g
    omega
   ·exact g
 have hl:fu 32 (ff u++rest)=((ff u).length,0):=by
  rw [h1,aL,dJ];unfold fu;rw [az (by omega),pf p z rest h2 h3,az (by omega),az (by simp)];simp
 unfold iB;rw [hl,az (by simp)];have ht:(ff u++rest).take (ff u).length=ff u:=cN;simp only [ht];rw [tu (by omega),aE ⟨rfl,by simpa using hu⟩]
theorem Cr (n:Int) (rest:List UInt8) (h0: -2147483648 <=n) (h1:n <=2147483647):jD 32 (iG n++rest)=(n,(iG n).length,0):=by
 obtain⟨p,z,e1,e2,e3,e4⟩:=qh 9 n (by omega) (by omega);change iG n=p++[z]at e1;have hp:p.length <=4:=by
  rcases Fv 9 n (by omega) (by omega)with h | ⟨-,h⟩
  ·change(iG n).length=1 at h
   rw [e1]at h;simp at h;simp [h]
  ·change ¬ (-(64*128^((iG n).length - 2)) <=n/\n < 64*128^((iG n).length - 2))at h
   rw [e1,ah,aB]at h;rcases bz 4 p.length with g | g
   ·exfalso
    apply h;have h5:(128:Nat)^4 <=128^(p.length+1 - 2):=cP (by omega) (by omega);have h6:(128:Int)^4 <=128^(p.length+1 - 2):=by
     have:=Int.ofNat_le.2 h5;simpa using this
    have h7:(128:Int)^4=268435456:=by decide
    constructor <;>omega
   ·exact g
 have hl:fu 32 (iG n++rest)=((iG n).length,0):=by
  rw [e1,aL,dJ];unfold fu;rw [az (by omega),pf p z rest e2 e3,az (by omega),az (by simp)];simp
 unfold jD;rw [hl,az (by simp)];have ht:(iG n++rest).take (iG n).length=iG n:=cN;simp only [ht];have h2:n < 9223372036854775808:=by omega
 rw [sM (by omega) h2,aE ⟨rfl,by simpa using h0,by simp;omega⟩]
def fU (op:Int):Nat:=
 if op=0\/op=1\/op=5\/op=11\/op=15\/op=26\/op=27 then 1
 else if op=2\/op=3\/op=4 then 2
 else if op=12\/op=13\/op=16\/op=32\/op=33\/op=34\/op=35\/op=36 then 3
 else if op=14 then 4
 else if op=17 then 5
 else if op=40\/op=41\/op=44\/op=45\/op=54\/op=55\/op=58 then 6
 else if op=63\/op=64 then 7
 else if op=65 then 8
 else if op=66 then 9
 else if(fh op).2.2=true then 1 else 0
theorem xI {op:Int} (h:fU op≠0):0 <=op/\op <=173:=by
 unfold fU at h
 repeat (split at h;·omega)
 rename_i hk;split at h
 ·rename_i hk
  have:=Cm hk;omega
 ·exact absurd rfl h
theorem oO (op:Int):fU op <=9:=by
 unfold fU
 repeat (split;·omega)
 omega
def gh (n:Int):Prop:=0 <=n/\n <=1000
instance (n:Int):Decidable (gh n):=by unfold gh;infer_instance
def fa.may (x:fa):Prop:=
 (fU x.op≠4 ->x.l=[])/\(fU x.op≠6 ->x.b=0)/\
 (fU x.op=1/\x.a=0\/fU x.op=2/\(0 <=x.a/\x.a <=2)\/fU x.op=3/\gh x.a\/fU x.op=4/\(gh x.a/\x.l.length <=50/\∀n∈x.l,gh n)\/fU x.op=5/\gh x.a\/
  fU x.op=6/\((0 <=x.a/\x.a <=3)/\0 <=x.b/\x.b <=4294967295)\/fU x.op=7/\x.a=0\/fU x.op=8/\(-2147483648 <=x.a/\x.a <=2147483647)\/fU x.op=9)
instance (x:fa):Decidable x.may:=by unfold fa.may;infer_instance
def gy (x:fa):List UInt8:=
 match fU x.op with
 | 2=>[if x.a=0 then 0x40 else if x.a=1 then 0x7f else 0x7e]
 | 3=>ff x.a.toNat
 | 4=>ff x.l.length++((x.l.map fun n=>ff n.toNat).flatten++ff x.a.toNat)
 | 5=>ff x.a.toNat++[0]
 | 6=>ff x.a.toNat++ff x.b.toNat
 | 7=>[0]
 | 8=>iG x.a
 | 9=>iG x.a
 | _=>[]
def iH (x:fa):List UInt8:=b8 (x.op.toNat %256)::gy x
def lN (Pk:Nat) (l:List UInt8):Option (Nat × List UInt8):=if(iB 32 l).2.2=0/\(iB 32 l).1 <=Pk then some ((iB 32 l).1,l.drop (iB 32 l).2.1)else none
def Dt (bits:Int) (l:List UInt8):Option (Int × List UInt8):=if(jD bits l).2.2=0 then some ((jD bits l).1,l.drop (jD bits l).2.1)else none
def qt:List UInt8 ->Option (List UInt8)
 | 0::l=>some l
 | _=>none
def qu (Pk:Nat):Nat ->List UInt8 ->Option (List Int × List UInt8)
 | 0,l=>some ([],l)
 | n+1,l=>(lN Pk l).bind fun x=>(qu Pk n x.2).bind fun y=>some ((x.1:Int)::y.1,y.2)
def tZ:List UInt8 ->Option (Int × List UInt8)
 | 0x40::l=>some (0,l)
 | 0x7f::l=>some (1,l)
 | 0x7e::l=>some (2,l)
 | _=>none
def gH:List UInt8 ->Option (fa × List UInt8)
 | []=>none
 | c::l=>match fU c.toNat with
  | 1=>some (⟨c.toNat,0,0,[]⟩,l)
  | 2=>(tZ l).bind fun x=>some (⟨c.toNat,x.1,0,[]⟩,x.2)
  | 3=>(lN 1000 l).bind fun x=>some (⟨c.toNat,x.1,0,[]⟩,x.2)
  | 4=>(lN 50 l).bind fun n=>(qu 1000 n.1 n.2).bind fun t=>(lN 1000 t.2).bind fun x=>some (⟨c.toNat,x.1,0,t.1⟩,x.2)
  | 5=>(lN 1000 l).bind fun x=>(qt x.2).bind fun r=>some (⟨c.toNat,x.1,0,[]⟩,r)
  | 6=>(lN 3 l).bind fun x=>(lN 4294967295 x.2).bind fun y=>some (⟨c.toNat,x.1,y.1,[]⟩,y.2)
  | 7=>(qt l).bind fun r=>some (⟨c.toNat,0,0,[]⟩,r)
  | 8=>(Dt 32 l).bind fun x=>some (⟨c.toNat,x.1,0,[]⟩,x.2)
  | 9=>(Dt 64 l).bind fun x=>some (⟨c.toNat,x.1,0,[]⟩,x.2)
  | _=>none
theorem ns {Pk n:Nat} (r:List UInt8) (h:n <=Pk) (hl:Pk < 4294967296):lN Pk (ff n++r)=some (n,r):=by
 unfold lN;rw [vS n r (by omega)];simp [h]
theorem yd {Pk:Nat} (hl:Pk < 4294967296):∀(l:List Int) (r:List UInt8),(∀n∈l,0 <=n/\n <=Pk) ->qu Pk l.length ((l.map fun n=>ff n.toNat).flatten++r)=some (l,r)
 | [],r,_=>rfl
 | n::l,r,h=>by
  obtain⟨h0,h1⟩:=h n (by simp);rw [bF,bO,aL,aD,qu,ns _ (by omega) hl];simp only [ao,yd hl l r (fun x hx=>h x (by simp [hx]))];have:((n.toNat:Nat):Int)=n:=by omega
  rw [this]
theorem EA (n:Int) (r:List UInt8) (h:iV n):Dt 64 (iG n++r)=some (n,r):=by
 unfold Dt;rw [wK n r h.1 h.2];simp
theorem E4 (n:Int) (r:List UInt8) (h0: -2147483648 <=n) (h1:n <=2147483647):Dt 32 (iG n++r)=some (n,r):=by
 unfold Dt;rw [Cr n r h0 h1];simp
theorem pq (x:fa) (r:List UInt8) (hm:x.may) (ho:x.ok):gH (iH x++r)=some (x,r):=by
 obtain⟨op,a,b,l⟩:=x;obtain⟨m1,m2,m3⟩:=hm;simp only at m1 m2 m3;have hf:fU op≠0:=by
  rcases m3 with h | h | h | h | h | h | h | h | h <;>first | (rw [h.1];decide) | (rw [h];decide)
 obtain⟨o1,o2⟩:=xI hf;have hc:((b8 (op.toNat %256)).toNat:Int)=op:=by
  rw [gZ (Nat.mod_lt _ (by omega))];omega
 have key:gH (iH ⟨op,a,b,l⟩++r)=(match fU op with
  | 1=>some (⟨op,0,0,[]⟩,gy ⟨op,a,b,l⟩++r)
  | 2=>(tZ (gy ⟨op,a,b,l⟩++r)).bind fun x=>some (⟨op,x.1,0,[]⟩,x.2)
  | 3=>(lN 1000 (gy ⟨op,a,b,l⟩++r)).bind fun x=>some (⟨op,x.1,0,[]⟩,x.2)
  | 4=>(lN 50 (gy ⟨op,a,b,l⟩++r)).bind fun n=>(qu 1000 n.1 n.2).bind fun t=>(lN 1000 t.2).bind fun x=>some (⟨op,x.1,0,t.1⟩,x.2)
  | 5=>(lN 1000 (gy ⟨op,a,b,l⟩++r)).bind fun x=>(qt x.2).bind fun r=>some (⟨op,x.1,0,[]⟩,r)
  | 6=>(lN 3 (gy ⟨op,a,b,l⟩++r)).bind fun x=>(lN 4294967295 x.2).bind fun y=>some (⟨op,x.1,y.1,[]⟩,y.2)
  | 7=>(qt (gy ⟨op,a,b,l⟩++r)).bind fun r=>some (⟨op,0,0,[]⟩,r)
  | 8=>(Dt 32 (gy ⟨op,a,b,l⟩++r)).bind fun x=>some (⟨op,x.1,0,[]⟩,x.2)
  | 9=>(Dt 64 (gy ⟨op,a,b,l⟩++r)).bind fun x=>some (⟨op,x.1,0,[]⟩,x.2)
  | _=>none):=by
  show(match fU ((b8 (op.toNat %256)).toNat:Int)with | 1=>_ | 2=>_ | 3=>_ | 4=>_ | 5=>_ | 6=>_ | 7=>_ | 8=>_ | 9=>_ | _=>_)=_;rw [hc];rfl
 rw [key];rcases m3 with⟨h,h1⟩ | ⟨h,h1,h2⟩ | ⟨h,h1,h2⟩ | ⟨h,⟨h1,h2⟩,h3,h4⟩ | ⟨h,h1,h2⟩ | ⟨h,⟨h1,h2⟩,h3,h4⟩ | ⟨h,h1⟩ | ⟨h,h1,h2⟩ | h
 all_goals
  unfold gy;simp only [h]
 ·rw [h1,m1 (by omega),m2 (by omega)]
  rfl
 ·rw [m1 (by omega),m2 (by omega)]
  rcases(show a=0\/a=1\/a=2 by omega)with rfl | rfl | rfl <;>rfl
 ·rw [ns r (by omega) (by omega),m1 (by omega),m2 (by omega)]
  have:((a.toNat:Nat):Int)=a:=by omega
  simp [this]
 ·rw [aL,aL,ns _ (by omega) (by omega)]
  simp only [ao];rw [yd (by omega) l _ (fun n hn=>by have:=h4 n hn;exact⟨this.1,by have:=this.2;omega⟩)];simp only [ao];rw [ns r (by omega) (by omega),m2 (by omega)];have:((a.toNat:Nat):Int)=a:=by omega
  simp [this]
 ·rw [aL,ns _ (by omega) (by omega),m1 (by omega),m2 (by omega)]
  have:((a.toNat:Nat):Int)=a:=by omega
  simp [this,qt]
 ·rw [aL,ns _ (by omega) (by omega)]
  simp only [ao];rw [ns _ (by omega) (by omega),m1 (by omega)];have e1:((a.toNat:Nat):Int)=a:=by omega
  have e2:((b.toNat:Nat):Int)=b:=by omega
  simp [e1,e2]
 ·rw [h1,m1 (by omega),m2 (by omega)]
  rfl
 ·rw [E4 a r h1 h2,m1 (by omega),m2 (by omega)]
  rfl
 ·rw [EA a r ho.2.1,m1 (by omega),m2 (by omega)]
  rfl
structure kG where
 pos:Int
 Mz:Int
 fin:Int
deriving DecidableEq
def yt (b:kG):List Value:=[.int .i64 b.pos, .int .i64 b.Mz, .int .i64 b.fin]
def ko (op:Int):Bool:=op==2 || op==3 || op==4
def gx (l:List fa) (i:Nat) (x:fa) (st:List kG × List Nat):Option (List kG × List Nat):=
 if ko x.op then(if st.2.length=40 then none else some (st.1++[⟨i,-1,-1⟩],st.2++[st.1.length]))
 else if x.op≠5/\x.op≠11 then some st
 else match st.2.getLast? with
  | none=>none
  | some k=>match st.1[k]? with
   | none=>none
   | some b=>if x.op=11 then some (st.1.set k {b with fin:=i},st.2.dropLast)
    else match l[b.pos.toNat]? with
     | none=>none
     | some y=>if y.op≠4\/0 <=b.Mz then none else some (st.1.set k {b with Mz:=i},st.2)
def gL (l:List fa):List fa ->Nat ->List kG × List Nat ->Option (List kG × List Nat)
 | [],_,st=>some st
 | x::rest,i,st=>(gx l i x st).bind fun PX=>gL l rest (i+1) PX
def fM (l:List fa):Option (List kG):=
 if 300 < l.length then none else(gL l l 0 ([],[])).bind fun st=>if st.2=[]then some st.1 else none
def nz (l:List fa):List UInt8:=(l.map iH).flatten++[11]
def iC (op deep:Int):Int:=if op=11 then deep - 1 else if ko op then deep+1 else deep
def kM:Nat ->List fa ->Int ->List UInt8 ->Option (List fa × List UInt8)
 | 0,_,_,_=>none
 | f+1,acc,deep,l=>(gH l).bind fun x=>
  if iC x.1.op deep < 0 then(if(fM acc).isSome then some (acc,x.2)else none)else if 300 < acc.length+1 then none else kM f (acc++[x.1]) (iC x.1.op deep) x.2
def lB (l:List UInt8):Option (List fa × List UInt8):=kM 301 [] 0 l
theorem qV {l:List fa} {i:Nat} {x:fa} {st PX:List kG × List Nat} (h:gx l i x st=some PX):0 <=iC x.op st.2.length/\(PX.2.length:Int)=iC x.op st.2.length:=by
 unfold gx at h;unfold iC;by_cases h1:ko x.op=true
 ·rw [aE h1]at h
  have h11:x.op≠11:=by
   intro e;rw [e]at h1;simp [ko]at h1
  rw [az h11,aE h1];split at h
  ·cases h
  ·injection h with h
   subst h;simp;omega
 rw [az h1]at h;by_cases h2:x.op≠5/\x.op≠11
 ·rw [aE h2]at h
  injection h with h;subst h;rw [az h2.2,az h1];exact⟨by omega,rfl⟩
 rw [az h2]at h;cases hg:st.2.getLast? with
 | none=>rw [hg]at h;cases h
 | some k=>
  rw [hg]at h;have hl:1 <=st.2.length:=by
   rcases bq st.2.length with g | g
   ·rw [aI g]at hg
    simp at hg
   ·exact g
  simp only at h;cases hb:st.1[k]? with
  | none=>rw [hb]at h;cases h
  | some b=>
   rw [hb]at h;simp only at h;by_cases h3:x.op=11
   ·rw [aE h3]at h
    injection h with h;subst h;rw [aE h3];simp only [dx];omega
   ·rw [az h3]at h
    rw [az h3,az h1];cases hy:l[b.pos.toNat]? with
    | none=>rw [hy]at h;cases h
    | some y=>
     rw [hy]at h;simp only at h;split at h
     ·cases h
     ·injection h with h
      subst h;exact⟨by omega,rfl⟩
theorem Dp (r:List UInt8):gH (11::r)=some (⟨11,0,0,[]⟩,r):=by
 have h:=pq ⟨11,0,0,[]⟩ r (by decide) ⟨⟨by decide,by decide⟩,⟨by decide,by decide⟩,⟨by decide,by decide⟩,by simp⟩;have e:iH ⟨11,0,0,[]⟩=[11]:=by decide
 rw [e]at h;exact h
theorem vH {body:List fa} (hm:(fM body).isSome=true) (hl:body.length <=300) (r:List UInt8):∀(rest acc:List fa) (i:Nat) (st PX:List kG × List Nat) (f:Nat),acc++rest=body ->gL body rest i st=some PX ->PX.2=[] ->
  (∀x∈rest,x.may/\x.ok) ->acc.length+f=301 ->kM f acc st.2.length ((rest.map iH).flatten++11::r)=some (body,r)
 | [],acc,i,st,PX,f,ha,hg,he,_,hf=>by
  rw [bR]at ha;subst ha;injection hg with hg;subst hg;obtain⟨f,rfl⟩:∃f',f=f'+1:=⟨f - 1,by omega⟩;rw [cL,List.flatten_nil,bY,kM,Dp];simp only [ao];rw [he,aE (by simp [iC]),aE hm]
 | x::rest,acc,i,st,PX,f,ha,hg,he,hx,hf=>by
  have hla:acc.length+rest.length+1 <=300:=by
   rw [<- ha]at hl;simp at hl;omega
  obtain⟨f,rfl⟩:∃f',f=f'+1:=⟨f - 1,by omega⟩;rw [gL]at hg;cases hs:gx body i x st with
  | none=>rw [hs]at hg;cases hg
  | some TB=>
   rw [hs]at hg;simp only [ao]at hg;obtain⟨d0,d1⟩:=qV hs;obtain⟨m1,m2⟩:=hx x (by simp);rw [bF,bO,aL,kM,pq x _ m1 m2];simp only [ao];rw [az (by omega),az (by omega), <- d1];exact vH hm hl r rest (acc++[x]) (i+1) TB PX f (by simp [ha]) hg he (fun y hy=>hx y (by simp [hy])) (by simp;omega)
theorem ED (l:List fa) (r:List UInt8) (hm:(fM l).isSome=true) (hx:∀x∈l,x.may/\x.ok):lB (nz l++r)=some (l,r):=by
 have hm':=hm;unfold fM at hm;split at hm
 ·cases hm
 ·rename_i hl
  cases hg:gL l l 0 ([],[])with
  | none=>rw [hg]at hm;cases hm
  | some st=>
   rw [hg]at hm;simp only [ao]at hm;split at hm
   ·rename_i he
    have:=vH hm' (by omega) r l [] 0 ([],[]) st 301 rfl hg he hx rfl;rw [lB,nz,aL];exact this
   ·cases hm
abbrev jt (α:Type):=List UInt8 ->Option (α × List UInt8)
def gD:jt Nat:=fun l=>if(iB 32 l).2.2=0 then some ((iB 32 l).1,l.drop (iB 32 l).2.1)else none
theorem lC (n:Nat) (r:List UInt8) (h:n < 4294967296):gD (ff n++r)=some (n,r):=by
 unfold gD;rw [vS n r h];simp
def fp:jt UInt8
 | []=>none
 | c::l=>some (c,l)
def mY:jt (List UInt8):=fun l=>(gD l).bind fun n=>if n.2.length < n.1 then none else some (n.2.take n.1,n.2.drop n.1)
theorem An (b r:List UInt8) (h:b.length < 4294967296):mY (ff b.length++(b++r))=some (b,r):=by
 unfold mY;rw [lC _ _ h];simp only [ao];rw [az (by simp)];simp
def tl {α:Type} (get:jt α):Nat ->jt (List α)
 | 0,l=>some ([],l)
 | n+1,l=>(get l).bind fun x=>(tl get n x.2).bind fun y=>some (x.1::y.1,y.2)
def fF {α:Type} (get:jt α):jt (List α):=fun l=>(gD l).bind fun n=>tl get n.1 n.2
def ix {α:Type} (put:α ->List UInt8) (l:List α):List UInt8:=ff l.length++(l.map put).flatten
theorem BS {α:Type} {get:jt α} {put:α ->List UInt8}:∀(l:List α) (r:List UInt8),(∀x∈l,∀r,get (put x++r)=some (x,r)) ->tl get l.length ((l.map put).flatten++r)=some (l,r)
 | [],r,_=>rfl
 | x::l,r,h=>by
  rw [bF,bO,aL,aD,tl,h x (by simp)];simp only [ao,BS l r (fun y hy=>h y (by simp [hy]))]
theorem oA {α:Type} {get:jt α} {put:α ->List UInt8} (l:List α) (r:List UInt8) (hl:l.length < 4294967296) (h:∀x∈l,∀r,get (put x++r)=some (x,r)):fF get (ix put l++r)=some (l,r):=by
 unfold fF ix;rw [aL,lC _ _ hl];exact BS l r h
def kindOk (k:Int):Prop:=k=1\/k=2
instance (k:Int):Decidable (kindOk k):=by unfold kindOk;infer_instance
def jo (k:Int):List UInt8:=[if k=1 then 0x7f else 0x7e]
def gT:jt Int
 | 0x7f::l=>some (1,l)
 | 0x7e::l=>some (2,l)
 | _=>none
theorem o7 {k:Int} (h:kindOk k) (r:List UInt8):gT (jo k++r)=some (k,r):=by
 rcases h with rfl | rfl <;>rfl
def pF (s:ByteArray):List UInt8:=ff s.data.toList.length++s.data.toList
def jN:jt ByteArray:=fun l=>(mY l).bind fun x=>some (bs x.1,x.2)
theorem tb (s:ByteArray) (r:List UInt8) (h:s.data.toList.length < 4294967296):jN (pF s++r)=some (s,r):=by
 unfold jN pF;rw [aL,An _ _ h];obtain⟨⟨l⟩⟩:=s;rfl
def mI (v:fi):List UInt8:=iH ⟨if v.kind=2 then 66 else 65,v.n,0,[]⟩++[11]
def gU:jt fi:=fun l=>(gH l).bind fun x=>if x.1.op=65\/x.1.op=66 then(fp x.2).bind fun c=>some (⟨if x.1.op=66 then 2 else 1,x.1.a⟩,c.2)else none
theorem zJ:iV 0:=⟨by decide,by decide⟩
theorem KT (n:Int):fa.may ⟨66,n,0,[]⟩:=⟨fun _=>rfl,fun _=>rfl,by
 right;right;right;right;right;right;right;right
 show fU 66=9
 decide⟩
theorem I6 {n:Int} (h1: -2147483648 <=n) (h2:n <=2147483647):fa.may ⟨65,n,0,[]⟩:=⟨fun _=>rfl,fun _=>rfl,by
 right;right;right;right;right;right;right;left
 exact⟨by show fU 65=8;decide,h1,h2⟩⟩
theorem vQ {v:fi} (hm:v.may) (ho:v.ok) (r:List UInt8):gU (mI v++r)=some (v,r):=by
 obtain⟨k,n⟩:=v;have h66:iV 66:=⟨by decide,by decide⟩;have h65:iV 65:=⟨by decide,by decide⟩;unfold gU mI;rcases hm with hk | ⟨hk,h1,h2⟩
 ·simp only at hk
  subst hk;have e:gH (iH ⟨66,n,0,[]⟩++([11]++r))=some (⟨66,n,0,[]⟩,[11]++r):=pq ⟨66,n,0,[]⟩ _ (KT n) ⟨h66,ho.2,zJ,by simp⟩;rw [aE rfl,aL,e];rfl
 ·simp only at hk h1 h2
  subst hk;have e:gH (iH ⟨65,n,0,[]⟩++([11]++r))=some (⟨65,n,0,[]⟩,[11]++r):=pq ⟨65,n,0,[]⟩ _ (I6 h1 h2) ⟨h65,ho.2,zJ,by simp⟩;rw [az (by show ¬ (1:Int)=2;decide),aL,e];rfl
def mN (n:Int):Prop:= -2147483648 <=n/\n <=2147483647
instance (n:Int):Decidable (mN n):=by unfold mN;infer_instance
def nY (n:Int):List UInt8:=0::mI ⟨1,n⟩
def jx:jt Int:=fun l=>(fp l).bind fun c=>(gU c.2).bind fun v=>some (v.1.n,v.2)
theorem uY {n:Int} (h:mN n) (r:List UInt8):jx (nY n++r)=some (n,r):=by
 unfold jx nY;rw [bH];simp only [fp,ao];rw [vQ (v:=⟨1,n⟩) (.inr ⟨rfl,h.1,h.2⟩) ⟨⟨by show(-9223372036854775808:Int) <=1;decide,by show(1:Int) <=9223372036854775807;decide⟩,by have:=h.1;show(-9223372036854775808:Int) <=n;omega,by have:=h.2;show n <=(9223372036854775807:Int);omega⟩];rfl
def gR (x:gl):List UInt8:=if x.max < 0 then 0::ff x.min.toNat else 1::(ff x.min.toNat++ff x.max.toNat)
def gw:jt gl:=fun l=>(fp l).bind fun c=>(gD c.2).bind fun n=>if c.1=0 then some (⟨true,n.1,-1⟩,n.2)else(gD n.2).bind fun m=>some (⟨true,n.1,m.1⟩,m.2)
def gl.may (least fD:Int) (x:gl):Prop:=if x.has=true then(0 <=x.min/\x.min <=least)/\ -1 <=x.max/\x.max <=fD else x.min=0/\x.max=0
instance (least fD:Int) (x:gl):Decidable (x.may least fD):=by unfold gl.may;infer_instance
theorem Ac {least fD:Int} {x:gl} (hh:x.has=true) (hm:x.may least fD) (hl:least <=100000) (hmo:fD <=100000) (r:List UInt8):gw (gR x++r)=some (x,r):=by
 obtain⟨has,mn,mx⟩:=x;simp only at hh;subst hh;unfold gl.may at hm;rw [aE rfl]at hm;obtain⟨⟨h1,h2⟩,h3,h4⟩:=hm;simp only at h1 h2 h3 h4;have e1:((mn.toNat:Nat):Int)=mn:=by omega
 unfold gw gR;by_cases hx:mx < 0
 ·rw [aE hx,bH]
  simp only [fp,ao];rw [lC _ _ (by omega)];have:mx= -1:=by omega
  simp [e1,this]
 ·rw [az hx,bH,aL]
  simp only [fp,ao];rw [lC _ _ (by omega)];simp only [ao];rw [az (by decide),lC _ _ (by omega)];have e2:((mx.toNat:Nat):Int)=mx:=by omega
  simp [e1,e2]
def gO:List Int ->List (Nat × Int)
 | []=>[]
 | k::l=>match gO l with
  | []=>[(1,k)]
  | (n,k')::t=>if k=k' then(n+1,k')::t else(1,k)::(n,k')::t
def jc (l:List (Nat × Int)):List Int:=(l.map fun x=>List.replicate x.1 x.2).flatten
theorem tx:∀l:List Int,jc (gO l)=l
 | []=>rfl
 | k::l=>by
  have ih:=tx l;rw [gO];cases hr:gO l with
  | nil=>
   rw [hr]at ih;simp only [jc]at ih⊢;simp at ih⊢;exact ih
  | cons x t=>
   obtain⟨n,k'⟩:=x;rw [hr]at ih;simp only;split
   ·rename_i h
    subst h;simp only [jc,bF,bO]at ih⊢;rw [List.replicate_succ,bH,ih]
   ·simp only [jc,bF,bO]at ih⊢
    rw [ih];rfl
theorem sr:∀(l:List Int) (x:Nat × Int),x∈gO l ->x.2∈l/\x.1 <=l.length
 | [],x,h=>by simp [gO]at h
 | k::l,x,h=>by
  have ih:=sr l;rw [gO]at h;cases hr:gO l with
  | nil=>
   rw [hr]at h;simp at h;subst h;simp
  | cons y t=>
   obtain⟨n,k'⟩:=y;rw [hr]at h ih;simp only at h;split at h
   ·rename_i hk
    rcases bx.1 h with rfl | h
    ·have:=ih (n,k') (by simp)
     exact⟨by simp [this.1],by simp only [aD];have:=this.2;simp only at this;omega⟩
    ·have:=ih x (by simp [h])
     exact⟨by simp [this.1],by simp only [aD];omega⟩
   ·rcases bx.1 h with rfl | h
    ·simp
    ·have:=ih x h
     exact⟨by simp [this.1],by simp only [aD];omega⟩
theorem pT (l:List Int):(gO l).length <=l.length:=by
 induction l with
 | nil=>simp [gO]
 | cons k l ih=>
  rw [gO];cases hr:gO l with
  | nil=>simp
  | cons y t=>
   obtain⟨n,k'⟩:=y;rw [hr]at ih;simp only;split <;>simp only [aD]at ih⊢ <;>omega
def zC (x:Nat × Int):List UInt8:=ff x.1++jo x.2
def mJ:jt (Nat × Int):=fun l=>(gD l).bind fun n=>(gT n.2).bind fun k=>if 32 < n.1 then none else some ((n.1,k.1),k.2)
def kJ (l:List Int):List UInt8:=ix zC (gO l)
def jO:jt (List Int):=fun l=>(fF mJ l).bind fun x=>some (jc x.1,x.2)
theorem BO {l:List Int} (hl:l.length <=32) (hk:∀k∈l,kindOk k) (r:List UInt8):jO (kJ l++r)=some (l,r):=by
 unfold jO kJ;have:=pT l;rw [oA (put:=zC) (gO l) r (by omega) (fun x hx r=>by
  obtain⟨h1,h2⟩:=sr l x hx;unfold mJ zC;rw [aL,lC _ _ (by omega)];simp only [ao];rw [o7 (hk _ h1)];simp only [ao];rw [az (by omega)])]
 simp [tx]
def ij.may (x:ij):Prop:=(fM x.body).isSome=true/\(x.locals.length <=32/\∀k∈x.locals,kindOk k)/\x.body.length <=300/\∀y∈x.body,y.may
def mM (x:ij):List UInt8:=kJ x.locals++nz x.body
def iK (x:ij):List UInt8:=ff (mM x).length++mM x
def mA:jt ij:=fun l=>(gD l).bind fun n=>(jO n.2).bind fun k=>(lB k.2).bind fun b=>some (⟨k.1,b.1⟩,b.2)
theorem Fm {x:ij} (hm:x.may) (ho:∀y∈x.body,y.ok) (hs:(mM x).length < 4294967296) (r:List UInt8):mA (iK x++r)=some (x,r):=by
 obtain⟨m1,⟨m2,m3⟩,m4,m5⟩:=hm;unfold mA iK;rw [aL,lC _ _ hs];simp only [ao,mM];rw [aL,BO m2 m3];simp only [ao];rw [ED _ _ m1 (fun y hy=>⟨m5 y hy,ho y hy⟩)];rfl
def kr (s:ByteArray):Prop:=s.data.toList≠[]/\s.data.toList.length <=16/\∀c∈s.data.toList,32 <=c.toNat/\c.toNat <=126
instance (s:ByteArray):Decidable (kr s):=by unfold kr;infer_instance
def ld (t:gC):List UInt8:=0x60::(ix jo t.params++ix jo t.results)
def pX:jt gC:=fun l=>(fp l).bind fun c=>(fF gT c.2).bind fun p=>(fF gT p.2).bind fun q=>some (⟨p.1,q.1⟩,q.2)
def gC.may (t:gC):Prop:=(t.params.length <=32/\∀k∈t.params,kindOk k)/\t.results.length <=1/\∀k∈t.results,kindOk k
theorem Fc {t:gC} (h:t.may) (r:List UInt8):pX (ld t++r)=some (t,r):=by
 obtain⟨⟨h1,h2⟩,h3,h4⟩:=h;unfold pX ld;rw [bH,aL];simp only [fp,ao];rw [oA _ _ (by omega) (fun k hk r=>o7 (h2 k hk) r)];simp only [ao];rw [oA _ _ (by omega) (fun k hk r=>o7 (h4 k hk) r)];rfl
def tk (n:Int):List UInt8:=ff n.toNat
def wX:jt Int:=fun l=>(gD l).bind fun n=>some ((n.1:Int),n.2)
theorem ur {n:Int} (h:gh n) (r:List UInt8):wX (tk n++r)=some (n,r):=by
 obtain⟨h1,h2⟩:=h;unfold wX tk;rw [lC _ _ (by omega)];have:((n.toNat:Nat):Int)=n:=by omega
 simp [this]
def od (x:kj):List UInt8:=pF x.mod++(pF x.name++(0::tk x.type))
def vw:jt kj:=fun l=>(jN l).bind fun a=>(jN a.2).bind fun b=>(fp b.2).bind fun c=>(wX c.2).bind fun n=>some (⟨a.1,b.1,n.1⟩,n.2)
def kj.may (x:kj):Prop:=kr x.mod/\kr x.name/\gh x.type
theorem Hw {x:kj} (h:x.may) (r:List UInt8):vw (od x++r)=some (x,r):=by
 obtain⟨⟨_,h1,_⟩,⟨_,h2,_⟩,h3⟩:=h;unfold vw od;rw [aL,tb _ _ (by omega)];simp only [ao];rw [aL,tb _ _ (by omega)];simp only [ao,bH,fp];rw [ur h3];rfl
def jy (x:gl):List UInt8:=0x70::gR x
def ly:jt gl:=fun l=>(fp l).bind fun c=>gw c.2
def kS (x:jY):List UInt8:=jo x.init.kind++((if x.isVar=true then 1 else 0)::mI x.init)
def qs:jt jY:=fun l=>(gT l).bind fun k=>(fp k.2).bind fun c=>(gU c.2).bind fun v=>some (⟨c.1 !=0,v.1⟩,v.2)
theorem Ft {x:jY} (h:x.init.may) (ho:x.init.ok) (r:List UInt8):qs (kS x++r)=some (x,r):=by
 obtain⟨v,i⟩:=x;have hk:kindOk i.kind:=by
  rcases h with h | ⟨h,_⟩
  ·exact .inr h
  ·exact .inl h
 unfold qs kS;rw [aL,o7 hk];simp only [ao,bH,fp];rw [vQ h ho];cases v <;>rfl
def oz (x:jr):List UInt8:=pF x.name++(0::tk x.func)
def uP:jt jr:=fun l=>(jN l).bind fun a=>(fp a.2).bind fun c=>(wX c.2).bind fun n=>some (⟨a.1,n.1⟩,n.2)
def jr.may (x:jr):Prop:=kr x.name/\gh x.func
theorem FW {x:jr} (h:x.may) (r:List UInt8):uP (oz x++r)=some (x,r):=by
 obtain⟨⟨_,h1,_⟩,h3⟩:=h;unfold uP oz;rw [aL,tb _ _ (by omega)];simp only [ao,bH,fp];rw [ur h3];rfl
def ll (x:jI):List UInt8:=nY x.off++ix tk x.funcs
def qv:jt jI:=fun l=>(jx l).bind fun n=>(fF wX n.2).bind fun t=>some (⟨n.1,t.1⟩,t.2)
def jI.may (x:jI):Prop:=mN x.off/\x.funcs.length <=50/\∀n∈x.funcs,gh n
theorem EP {x:jI} (h:x.may) (r:List UInt8):qv (ll x++r)=some (x,r):=by
 obtain⟨h1,h2,h3⟩:=h;unfold qv ll;rw [aL,uY h1];simp only [ao];rw [oA _ _ (by omega) (fun k hk r=>ur (h3 k hk) r)];rfl
def oy (x:iq):List UInt8:=nY x.off++(ff x.bytes.length++x.bytes)
def wI:jt iq:=fun l=>(jx l).bind fun n=>(mY n.2).bind fun b=>some (⟨n.1,b.1⟩,b.2)
def iq.may (x:iq):Prop:=mN x.off/\x.bytes.length <=1000
theorem IZ {x:iq} (h:x.may) (r:List UInt8):wI (oy x++r)=some (x,r):=by
 obtain⟨h1,h2⟩:=h;unfold wI oy;rw [aL,uY h1];simp only [ao];rw [aL,An _ _ (by omega)];rfl
def gA {α:Type} (no:UInt8) (put:α ->List UInt8) (l:List α):List UInt8:=match l with
 | []=>[]
 | _=>no::(ff (ix put l).length++ix put l)
def oneOf (x:gl):List gl:=if x.has=true then [x]else []
def fN:List UInt8:=[0,0x61,0x73,0x6d,1,0,0,0]
def qf (m:eI):List UInt8:=
 gA 1 ld m.types++(gA 2 od m.imports++(gA 3 tk m.funcs++(gA 4 jy (oneOf m.table)++(gA 5 gR (oneOf m.mem)++(gA 6 kS m.globals++(gA 7 oz m.ey++(gA 9 ll m.elems++(gA 10 iK m.eF++gA 11 oy m.eP))))))))
def fL (m:eI):List UInt8:=fN++qf m
def m0:eI:=⟨[],[],[],⟨false,0,0⟩,⟨false,0,0⟩,[],[],[],[],[]⟩
def ki (l:List gl):gl:=match l with
 | []=>⟨false,0,0⟩
 | x::_=>x
def jS (no:Nat) (m:eI) (l:List UInt8):Option (eI × List UInt8):=match no with
 | 1=>(fF pX l).bind fun x=>some ({m with types:=x.1},x.2)
 | 2=>(fF vw l).bind fun x=>some ({m with imports:=x.1},x.2)
 | 3=>(fF wX l).bind fun x=>some ({m with funcs:=x.1},x.2)
 | 4=>(fF ly l).bind fun x=>some ({m with table:=ki x.1},x.2)
 | 5=>(fF gw l).bind fun x=>some ({m with mem:=ki x.1},x.2)
 | 6=>(fF qs l).bind fun x=>some ({m with globals:=x.1},x.2)
 | 7=>(fF uP l).bind fun x=>some ({m with ey:=x.1},x.2)
 | 9=>(fF qv l).bind fun x=>some ({m with elems:=x.1},x.2)
 | 10=>(fF mA l).bind fun x=>some ({m with eF:=x.1},x.2)
 | 11=>(fF wI l).bind fun x=>some ({m with eP:=x.1},x.2)
 | _=>none
def oK:Nat ->eI ->List UInt8 ->Option eI
 | 0,_,_=>none
 | _+1,m,[]=>some m
 | f+1,m,no::l=>(gD l).bind fun k=>(jS no.toNat m k.2).bind fun x=>oK f x.1 x.2
def mS (l:List UInt8):Option eI:=if 8000 < l.length then none else if l.take 8=fN then oK (l.length+1) m0 (l.drop 8)else none
theorem kH {α:Type} {no:UInt8} {put:α ->List UInt8} {get:jt α} {l:List α} {m m':eI} (upd:List α ->eI) (OD:∀b,jS no.toNat m b=(fF get b).bind fun x=>some (upd x.1,x.2)) (h0:l=[] ->m'=m) (h1:upd l=m')
  (hp:∀x∈l,∀r,get (put x++r)=some (x,r)) (hl:l.length < 4294967296) (hs:(ix put l).length < 4294967296) (f:Nat) (r:List UInt8) (hf:(gA no put l++r).length < f):
  ∃f',r.length < f'/\oK f m (gA no put l++r)=oK f' m' r:=by
 cases l with
 | nil=>
  rw [h0 rfl];exact⟨f,by simpa [gA] using hf,rfl⟩
 | cons x l=>
  obtain⟨f,rfl⟩:∃f',f=f'+1:=⟨f - 1,by omega⟩;refine⟨f,?_,?_⟩
  ·simp only [gA,ah,aD]at hf
   omega
  ·simp only [gA,bH,aL]
   rw [oK,lC _ _ hs];simp only [ao];rw [OD,oA _ _ hl hp];simp only [ao];rw [h1]
def eI.Kg (m:eI):Prop:=
 (∀x∈m.types,x.may)/\(∀x∈m.imports,x.may)/\(∀n∈m.funcs,gh n)/\m.table.may 16 1000/\m.mem.may 16 65536/\(∀x∈m.globals,x.init.may)/\(∀x∈m.ey,x.may)/\(∀x∈m.elems,x.may)/\(∀x∈m.eF,x.may)/\∀x∈m.eP,x.may
theorem AZ {α:Type} (no:UInt8) (put:α ->List UInt8) (l:List α):l=[]\/(ix put l).length < (gA no put l).length:=by
 cases l with
 | nil=>exact .inl rfl
 | cons x l=>
  right
  simp only [gA,aD,ah];omega
theorem jF {α:Type} (no:UInt8) (put:α ->List UInt8) (l:List α) {n:Nat} (h:(gA no put l).length <=n) (hn:n <=8000):(ix put l).length < 4294967296:=by
 rcases AZ no put l with h1 | h1
 ·rw [h1]
  have:=(eU 0).2;simp only [ix,aH,cL,List.flatten_nil,bR];omega
 ·omega
theorem mm {α:Type} (put:α ->List UInt8):∀l:List α,(∀x∈l,1 <=(put x).length) ->l.length <=(ix put l).length:=by
 intro l h;have:∀l:List α,(∀x∈l,1 <=(put x).length) ->l.length <=((l.map put).flatten).length:=by
  intro l
  induction l with
  | nil=>simp
  | cons x l ih=>
   intro h;have h1:=h x (by simp);have h2:=ih (fun y hy=>h y (by simp [hy]));simp only [bF,bO,ah,aD];omega
 have:=this l h;simp only [ix,ah];omega
theorem CI {x:ij} {m:eI} (hx:x∈m.eF) (hl:(fL m).length <=8000):(mM x).length < 4294967296:=by
 have h1:(iK x).length <=((m.eF.map iK).flatten).length:=by
  obtain⟨a,b,QU⟩:=List.append_of_mem hx;rw [QU];simp only [ct,bF,List.flatten_append,bO,ah];omega
 rcases AZ 10 iK m.eF with h2 | h2
 ·rw [h2]at hx
  simp at hx
 ·simp only [fL,qf,ah]at hl
  simp only [ix,ah]at h2;simp only [iK,ah]at h1;omega
def mask (S:Nat ->Bool) (w:World):World:={w with heap:=w.heap.mapIdx fun i o=>if S i=true then .cells #[] 0 else o}
theorem iz (S:Nat ->Bool) (w:World):(mask S w).heap.size=w.heap.size:=by simp [mask]
theorem jA {S:Nat ->Bool} (w:World) {k:Nat} (h:S k=false):(mask S w).heap[k]?=w.heap[k]?:=by
 simp [mask,h]
theorem qk {S:Nat ->Bool} (w:World) {k:Nat} (h:S k=true):(mask S w).heap[k]?=(w.heap[k]?).map fun _=>Obj.cells #[] 0:=by
 simp [mask,h]
theorem gm {S:Nat ->Bool} {w:World} {b i:Nat} {v:Value} (h:(mask S w).cell? ⟨b,i,none⟩=some v):S b=false/\w.cell? ⟨b,i,none⟩=some v:=by
 cases hs:S b with
 | true=>
  exfalso;unfold World.cell? at h;rw [qk w hs]at h;cases hg:w.heap[b]? with
  | none=>rw [hg]at h;simp at h
  | some o=>rw [hg]at h;simp at h
 | false=>
  refine⟨rfl,?_⟩;unfold World.cell? at h⊢;rw [jA w hs]at h;exact h
theorem ep.mask {P:Nat ->Prop} {S:Nat ->Bool} {w w':World} (h:ep P w w') (hs:∀k,P k ->S k=true):Below (mask S w).heap.size (mask S w) (mask S w'):=by
 refine⟨h.os,h.tape,h.output,by rw [iz,iz];exact h.size,fun k hk=>?_⟩;rw [iz]at hk;cases hb:S k with
 | true=>
  rw [qk _ hb,qk _ hb,Array.getElem?_eq_getElem hk,Array.getElem?_eq_getElem (bp hk h.size)];rfl
 | false=>
  rw [jA _ hb,jA _ hb];exact h.block k hk (fun g=>by rw [hs k g]at hb;cases hb)
theorem Dl {S:Nat ->Bool} {w w':World} (h:Below w.heap.size w w'):Below (mask S w).heap.size (mask S w) (mask S w'):=
 (ep.et (S:=fun _=>False) h).mask (fun _ h=>h.elim)
theorem eA.gf {α:Type} {k:Nat} {enc:α ->List Value} {S:Nat ->Bool} {w:World} {v:Value} {l:List α} (h:eA k enc (mask S w) v l):eA k enc w v l:=by
 obtain⟨a,cap,hv,h1,h2,h3⟩:=h;refine⟨a,cap,hv,h1,h2,fun i x hx=>?_⟩;obtain⟨b,off,ha,Nu,hc⟩:=h3 i x hx;exact⟨b,off,ha,by rw [iz]at Nu;exact Nu,fun j u hu=>(gm (hc j u hu)).2⟩
theorem eD.gf {α β:Type} {k:Nat} {enc:α × β ->List Value} {inner:World ->α ->β ->Prop} {S:Nat ->Bool} {w:World} {v:Value} {l:List α} (h:eD k enc inner (mask S w) v l) (hi:∀x u,inner (mask S w) x u ->inner w x u):eD k enc inner w v l:=by
 obtain⟨us,h1,h2,h3⟩:=h;exact⟨us,h1,h2.gf,fun i x u hx hu=>hi x u (h3 i x u hx hu)⟩
theorem eZ.gf {S:Nat ->Bool} {w:World} {v:Value} {l:List UInt8} (h:eZ (mask S w) v l):eZ w v l:=by
 obtain⟨a,cap,hv,h1,h2,h3⟩:=h;refine⟨a,cap,hv,h1,h2,fun i x hx=>?_⟩;obtain⟨b,off,ha,hc⟩:=h3 i x hx;exact⟨b,off,ha,(gm hc).2⟩
theorem ei.mask {α:Type} {t:TypeId} {k:Nat} {enc:α ->List Value} {S:Nat ->Bool} {w:World} {B:Nat} {v:Value} {l:List α} (h:ei t k enc w B v l) (hs:∀b,B <=b ->S b=false):ei t k enc (mask S w) B v l:=by
 obtain⟨hl,hv | ⟨g,cap,cur,hv,hb,hg,rest⟩⟩:=h
 ·exact⟨hl, .inl hv⟩
 ·exact⟨hl, .inr ⟨g,cap,cur,hv,hb,by rw [jA w (hs g hb)];exact hg,rest⟩⟩
theorem eC.mask {S:Nat ->Bool} {w:World} {B:Nat} {v:Value} {l:List UInt8} (h:eC w B v l) (hs:∀b,B <=b ->S b=false):eC (mask S w) B v l:=by
 obtain⟨hl,hv | ⟨g,cap,cur,hv,hb,hg,rest⟩⟩:=h
 ·exact⟨hl, .inl hv⟩
 ·exact⟨hl, .inr ⟨g,cap,cur,hv,hb,by rw [jA w (hs g hb)];exact hg,rest⟩⟩
theorem gY.gf {S:Nat ->Bool} {w:World} {x:fa} {u:Value} (h:gY (mask S w) x u):gY w x u:=⟨h.1.gf,h.2⟩
theorem gN.gf {S:Nat ->Bool} {w:World} {v:Value} {l:List fa} (h:gN (mask S w) v l):gN w v l:=eD.gf h (fun _ _ h=>h.gf)
theorem hI.gf {S:Nat ->Bool} {w:World} {x:gC} {u:Value × Value} (h:hI (mask S w) x u):hI w x u:=⟨⟨h.1.1.gf,h.1.2.gf⟩,h.2⟩
theorem il.gf {S:Nat ->Bool} {w:World} {x:jI} {u:Value} (h:il (mask S w) x u):il w x u:=⟨h.1.gf,h.2⟩
theorem gW.gf {S:Nat ->Bool} {w:World} {x:ij} {u:Value × Value} (h:gW (mask S w) x u):gW w x u:=⟨⟨h.1.1.gf,h.1.2.gf⟩,h.2⟩
theorem gG.gf {S:Nat ->Bool} {w:World} {x:iq} {u:Value} (h:gG (mask S w) x u):gG w x u:=⟨h.1.gf,h.2⟩
theorem eG.gf {S:Nat ->Bool} {w:World} {u:eT} {m:eI} (h:eG (mask S w) u m):eG w u m:=by
 obtain⟨h1,h2,h3,h4,h5,h6,h7,h8,h9⟩:=h;exact⟨eD.gf h1 (fun _ _ h=>h.gf),h2.gf,h3.gf,h4.gf,h5.gf,eD.gf h6 (fun _ _ h=>h.gf),eD.gf h7 (fun _ _ h=>h.gf),eD.gf h8 (fun _ _ h=>h.gf),h9⟩
abbrev gV:=Option (List UInt8)
def gV.len:gV ->Nat
 | none=>0
 | some l=>l.length+1
def eK {α:Type} (get:jt α) (st:gV):gV:=(st.bind get).map (·.2)
def ie {α:Type} (get:jt α) (st:gV) (x:α):Prop:=∀y,st.bind get=some y ->x=y.1
theorem nd {α:Type} (get:jt α) (x:α):ie get none x:=fun _ h=>by simp at h
def kC {α β:Type} (a:jt α) (b:jt β):jt (α × β):=fun l=>(a l).bind fun x=>(b x.2).bind fun y=>some ((x.1,y.1),y.2)
def ib {α β:Type} (f:α ->β) (a:jt α):jt β:=fun l=>(a l).map fun x=>(f x.1,x.2)
theorem hU {α β:Type} (a:jt α) (b:jt β) (st:gV):eK (kC a b) st=eK b (eK a st):=by
 cases st with
 | none=>rfl
 | some l=>
  simp only [eK,kC,ao];cases h:a l with
  | none=>rfl
  | some x=>cases h2:b x.2 <;>simp [h2]
theorem iE {α β:Type} {a:jt α} {b:jt β} {st:gV} {x:α} {y:β} (h1:ie a st x) (h2:ie b (eK a st) y):ie (kC a b) st (x,y):=by
 intro z hz;cases st with
 | none=>simp at hz
 | some l=>
  simp only [kC,ao]at hz;cases h:a l with
  | none=>rw [h]at hz;simp at hz
  | some x'=>
   rw [h]at hz;simp only [ao]at hz;cases hb:b x'.2 with
   | none=>rw [hb]at hz;simp at hz
   | some y'=>
    rw [hb]at hz;simp only [ao,aS]at hz;have e1:=h1 x' (by simpa using h);have e2:=h2 y' (by simp [eK,h,hb]);rw [<- hz,e1,e2]
theorem fG {α β:Type} (f:α ->β) (a:jt α) (st:gV):eK (ib f a) st=eK a st:=by
 cases st with
 | none=>rfl
 | some l=>
  simp only [eK,ib,ao];cases a l <;>rfl
theorem fO {α β:Type} {f:α ->β} {a:jt α} {st:gV} {x:α} (h:ie a st x):ie (ib f a) st (f x):=by
 intro z hz;cases st with
 | none=>simp at hz
 | some l=>
  simp only [ib,ao]at hz;cases ha:a l with
  | none=>rw [ha]at hz;simp at hz
  | some y=>
   rw [ha]at hz;simp only [bA,aS]at hz;rw [<- hz,h y (by simpa using ha)]
def jL {α:Type} (get:jt α):Prop:=∀l y,get l=some y ->y.2.length < l.length
def pE {α:Type} (get:jt α):Prop:=∀l y,get l=some y ->y.2.length <=l.length
theorem jL.mG {α:Type} {get:jt α} (h:jL get):pE get:=fun l y hy=>Nat.le_of_lt (h l y hy)
theorem jL.seq {α β:Type} {a:jt α} {b:jt β} (ha:jL a) (hb:pE b):jL (kC a b):=by
 intro l y hy;simp only [kC]at hy;cases h:a l with
 | none=>rw [h]at hy;simp at hy
 | some x=>
  rw [h]at hy;simp only [ao]at hy;cases h2:b x.2 with
  | none=>rw [h2]at hy;simp at hy
  | some z=>
   rw [h2]at hy;simp only [ao,aS]at hy;subst hy;exact Nat.lt_of_le_of_lt (hb _ _ h2) (ha _ _ h)
theorem jL.map {α β:Type} {f:α ->β} {a:jt α} (ha:jL a):jL (ib f a):=by
 intro l y hy;simp only [ib]at hy;cases h:a l with
 | none=>rw [h]at hy;simp at hy
 | some x=>
  rw [h]at hy;simp only [bA,aS]at hy;subst hy;exact ha _ _ h
theorem pE.len {α:Type} {get:jt α} (h:pE get) (st:gV):(eK get st).len <=st.len:=by
 cases st with
 | none=>simp [eK,gV.len]
 | some l=>
  simp only [eK,ao];cases hg:get l with
  | none=>simp [gV.len]
  | some y=>have:=h l y hg;simp only [bA,gV.len];omega
theorem jL.len {α:Type} {get:jt α} (h:jL get) (l:List UInt8):(eK get (some l)).len < gV.len (some l):=by
 simp only [eK,ao];cases hg:get l with
 | none=>simp [gV.len]
 | some y=>have:=h l y hg;simp only [bA,gV.len];omega
theorem lk:jL gD:=by
 intro l y hy;unfold gD at hy;split at hy
 ·rename_i h
  simp only [aS]at hy;subst hy;unfold iB at h;split at h
  ·rename_i h1
   exact absurd h h1
  ·rename_i h1
   have h2:=dI.1 h1;obtain⟨_,_,k1,k2,_⟩:=jm h2;have h3:(iB 32 l).2.1=(fu 32 l).1:=by
    unfold iB;rw [az h1];split
    ·rfl
    ·rename_i h4
     rw [az h4]at h;cases h
   simp only [bu,h3];omega
 ·cases hy
theorem lh:jL fp:=by
 intro l y hy;cases l with
 | nil=>cases hy
 | cons c l=>simp only [fp,aS]at hy;subst hy;simp
theorem me:jL gT:=by
 intro l y hy;unfold gT at hy;split at hy
 ·simp only [aS]at hy;subst hy;simp
 ·simp only [aS]at hy;subst hy;simp
 ·cases hy
theorem zZ {α:Type} {get:jt α} (h:jL get):∀n,pE (tl get n)
 | 0=>fun l y hy=>by simp only [tl,aS]at hy;subst hy;exact ag _
 | n+1=>fun l y hy=>by
  simp only [tl]at hy;cases hg:get l with
  | none=>rw [hg]at hy;simp at hy
  | some x=>
   rw [hg]at hy;simp only [ao]at hy;cases hr:tl get n x.2 with
   | none=>rw [hr]at hy;simp at hy
   | some z=>
    rw [hr]at hy;simp only [ao,aS]at hy;subst hy;exact aQ (show z.2.length <=x.2.length from zZ h n _ _ hr) (Nat.le_of_lt (h _ _ hg))
theorem iy {α:Type} {get:jt α} (h:jL get):jL (fF get):=by
 intro l y hy;simp only [fF]at hy;cases hg:gD l with
 | none=>rw [hg]at hy;simp at hy
 | some x=>
  rw [hg]at hy;simp only [ao]at hy;exact Nat.lt_of_le_of_lt (zZ h _ _ _ hy) (lk _ _ hg)
theorem vu:pX=ib (fun x=>⟨x.2.1,x.2.2⟩) (kC fp (kC (fF gT) (fF gT))):=by
 funext l
 simp only [pX,ib,kC];cases h1:fp l with
 | none=>rfl
 | some c=>
  simp only [ao];cases h2:fF gT c.2 with
  | none=>rfl
  | some p=>
   simp only [ao];cases fF gT p.2 <;>rfl
theorem yQ:vw=ib (fun x=>⟨x.1,x.2.1,x.2.2.2⟩) (kC jN (kC jN (kC fp wX))):=by
 funext l
 simp only [vw,ib,kC];cases h1:jN l with
 | none=>rfl
 | some a=>
  simp only [ao];cases h2:jN a.2 with
  | none=>rfl
  | some b=>
   simp only [ao];cases h3:fp b.2 with
   | none=>rfl
   | some c=>
    simp only [ao];cases wX c.2 <;>rfl
theorem vE:qs=ib (fun x=>⟨x.2.1 !=0,x.2.2⟩) (kC gT (kC fp gU)):=by
 funext l
 simp only [qs,ib,kC];cases h1:gT l with
 | none=>rfl
 | some a=>
  simp only [ao];cases h2:fp a.2 with
  | none=>rfl
  | some b=>
   simp only [ao];cases gU b.2 <;>rfl
theorem zs:uP=ib (fun x=>⟨x.1,x.2.2⟩) (kC jN (kC fp wX)):=by
 funext l
 simp only [uP,ib,kC];cases h1:jN l with
 | none=>rfl
 | some a=>
  simp only [ao];cases h2:fp a.2 with
  | none=>rfl
  | some b=>
   simp only [ao];cases wX b.2 <;>rfl
theorem pZ:qv=ib (fun x=>⟨x.1,x.2⟩) (kC jx (fF wX)):=by
 funext l
 simp only [qv,ib,kC];cases h1:jx l with
 | none=>rfl
 | some a=>
  simp only [ao];cases fF wX a.2 <;>rfl
theorem zl:wI=ib (fun x=>⟨x.1,x.2⟩) (kC jx mY):=by
 funext l
 simp only [wI,ib,kC];cases h1:jx l with
 | none=>rfl
 | some a=>
  simp only [ao];cases mY a.2 <;>rfl
theorem rK:wX=ib (fun n:Nat=>(n:Int)) gD:=by
 funext l
 simp only [wX,ib];cases gD l <;>rfl
theorem uO:jN=ib bs mY:=by
 funext l
 simp only [jN,ib];cases mY l <;>rfl
theorem tj:jx=ib (fun x=>x.2.n) (kC fp gU):=by
 funext l
 simp only [jx,ib,kC];cases h1:fp l with
 | none=>rfl
 | some a=>
  simp only [ao];cases gU a.2 <;>rfl
theorem tf:ly=ib (fun x=>x.2) (kC fp gw):=by
 funext l
 simp only [ly,ib,kC];cases h1:fp l with
 | none=>rfl
 | some a=>
  simp only [ao];cases gw a.2 <;>rfl
structure IR where
 pos:Nat
 err:Int
def IR.rest (L:List UInt8) (s:IR):gV:=if s.err=0 then some (L.drop s.pos)else none
def IR.byte (L:List UInt8) (s:IR):Nat × IR:=
 if s.err=0 then(match L[s.pos]? with | some c=>(c.toNat,⟨s.pos+1,0⟩) | none=>(0,⟨s.pos,2⟩))else(0,s)
def IR.kn (L:List UInt8) (lim:Nat) (s:IR):Nat × IR:=
 if s.err=0 then(if(iB 32 (L.drop s.pos)).2.2=0 then(if lim < (iB 32 (L.drop s.pos)).1 then(0,⟨s.pos,1⟩)else((iB 32 (L.drop s.pos)).1,⟨s.pos+(iB 32 (L.drop s.pos)).2.1,0⟩))else(0,⟨s.pos,(iB 32 (L.drop s.pos)).2.2⟩))else(0,s)
def IR.rI (L:List UInt8) (bits:Int) (s:IR):Int × IR:=((jD bits (L.drop s.pos)).1,⟨s.pos+(jD bits (L.drop s.pos)).2.1,(jD bits (L.drop s.pos)).2.2⟩)
def IR.zero (L:List UInt8) (s:IR):IR:=if(s.byte L).1=0 then(s.byte L).2 else⟨(s.byte L).2.pos,1⟩
def IR.kind (L:List UInt8) (s:IR):Nat × IR:=
 if(s.byte L).1=64 then(0,(s.byte L).2)else if(s.byte L).1=127 then(1,(s.byte L).2)else if(s.byte L).1=126 then(2,(s.byte L).2)
 else(0,if(s.byte L).2.err=0 then⟨(s.byte L).2.pos,1⟩else(s.byte L).2)
def IR.ok (L:List UInt8) (s:IR):Prop:=s.pos <=L.length/\0 <=s.err/\s.err <=12
theorem IR.xY (L:List UInt8) (s:IR):(s.byte L).2.rest L=eK fp (s.rest L):=by
 unfold IR.byte IR.rest;by_cases h:s.err=0
 ·simp only [h,cT]
  cases hc:L[s.pos]? with
  | none=>
   have:L.drop s.pos=[]:=by rw [List.drop_eq_nil_iff];exact List.getElem?_eq_none_iff.1 hc
   simp [this,eK,fp]
  | some c=>
   obtain⟨Nu,rfl⟩:=aG.1 hc;rw [cz Nu];rfl
 ·simp [h,eK]
theorem IR.BM (L:List UInt8) (s:IR):∀y,(s.rest L).bind fp=some y ->(s.byte L).1=y.1.toNat:=by
 unfold IR.byte IR.rest;intro y hy;by_cases h:s.err=0
 ·simp only [h,cT]at hy⊢
  cases hc:L[s.pos]? with
  | none=>
   have:L.drop s.pos=[]:=by rw [List.drop_eq_nil_iff];exact List.getElem?_eq_none_iff.1 hc
   rw [this]at hy;simp [fp]at hy
  | some c=>
   obtain⟨Nu,rfl⟩:=aG.1 hc;rw [cz Nu]at hy;simp only [ao,fp,aS]at hy;rw [<- hy]
 ·simp [h]at hy
theorem IR.yT {L:List UInt8} {s:IR} (h:s.ok L):(s.byte L).2.ok L:=by
 obtain⟨h1,h2,h3⟩:=h;unfold IR.byte;split
 ·split
  ·rename_i c hc
   have:=(aG.1 hc).1;exact⟨by simp only;omega,by simp,by simp⟩
  ·exact⟨h1,by simp,by simp⟩
 ·exact⟨h1,h2,h3⟩
theorem IP (bits:Int) (l:List UInt8):0 <=(iB bits l).2.2/\(iB bits l).2.2 <=12:=by
 have hl:0 <=(fu bits l).2/\(fu bits l).2 <=12:=by
  unfold fu
  repeat' split
  all_goals simp
 unfold iB;split
 ·exact hl
 ·split <;>simp
theorem Hc (bits:Int) (l:List UInt8):0 <=(jD bits l).2.2/\(jD bits l).2.2 <=12:=by
 have hl:0 <=(fu bits l).2/\(fu bits l).2 <=12:=by
  unfold fu
  repeat' split
  all_goals simp
 unfold jD;split
 ·exact hl
 ·split <;>simp
theorem yR (bits:Int) (l:List UInt8):(iB bits l).2.1 <=l.length:=by
 unfold iB;split
 ·simp
 ·rename_i h
  obtain⟨_,_,k1,k2,_⟩:=jm (dI.1 h);split
  ·simp only;omega
  ·simp
theorem Eh (bits:Int) (l:List UInt8):(jD bits l).2.1 <=l.length:=by
 unfold jD;split
 ·simp
 ·rename_i h
  obtain⟨_,_,k1,k2,_⟩:=jm (dI.1 h);split
  ·simp only;omega
  ·simp
theorem IR.sA (L:List UInt8) (lim:Nat) (s:IR):(s.kn L lim).2.rest L=eK (lN lim) (s.rest L):=by
 unfold IR.kn IR.rest;by_cases h:s.err=0
 ·simp only [h,cT]
  by_cases h1:(iB 32 (L.drop s.pos)).2.2=0
  ·simp only [h1,cT]
   by_cases h2:lim < (iB 32 (L.drop s.pos)).1
   ·rw [aE h2]
    simp [eK,lN,h1,Nat.not_le.2 h2]
   ·rw [az h2]
    simp [eK,lN,h1,Nat.not_lt.1 h2,List.drop_drop]
  ·simp only [h1,dB]
   simp [eK,lN,h1]
 ·simp [h,eK]
theorem IR.uq (L:List UInt8) (lim:Nat) (s:IR):ie (lN lim) (s.rest L) (s.kn L lim).1:=by
 unfold IR.kn IR.rest;intro y hy;by_cases h:s.err=0
 ·simp only [h,cT]at hy⊢
  simp only [ao,lN]at hy;split at hy
  ·rename_i h1
   simp only [h1.1,cT,az (Nat.not_lt.2 h1.2)];simp only [aS]at hy;rw [<- hy]
  ·cases hy
 ·simp [h]at hy
theorem IR.Lx {L:List UInt8} {lim:Nat} {s:IR} (h:s.ok L):(s.kn L lim).2.ok L:=by
 obtain⟨h1,h2,h3⟩:=h;have e1:=IP 32 (L.drop s.pos);have e2:=yR 32 (L.drop s.pos);rw [bu]at e2;unfold IR.kn;split
 ·split
  ·split
   ·exact⟨h1,by simp,by simp⟩
   ·exact⟨by simp only;omega,by simp,by simp⟩
  ·exact⟨h1,e1⟩
 ·exact⟨h1,h2,h3⟩
theorem IR.CY (L:List UInt8) (lim:Nat) (s:IR):(s.kn L lim).1 <=lim:=by
 unfold IR.kn;split
 ·split
  ·split
   ·simp
   ·rename_i h;exact Nat.not_lt.1 h
  ·simp
 ·simp
theorem IR.A2 (L:List UInt8) (bits:Int) (s:IR) (h:s.err=0):(s.rI L bits).2.rest L=eK (Dt bits) (s.rest L):=by
 unfold IR.rI IR.rest;simp only [h,cT];by_cases h1:(jD bits (L.drop s.pos)).2.2=0
 ·simp [h1,eK,Dt,List.drop_drop]
 ·simp [h1,eK,Dt]
theorem IR.DY (L:List UInt8) (bits:Int) (s:IR):ie (Dt bits) (s.rest L) (s.rI L bits).1:=by
 unfold IR.rI IR.rest;intro y hy;split at hy
 ·simp only [ao,Dt]at hy
  split at hy
  ·simp only [aS]at hy
   rw [<- hy]
  ·cases hy
 ·simp at hy
theorem IR.LB {L:List UInt8} {bits:Int} {s:IR} (h:s.ok L):(s.rI L bits).2.ok L:=by
 obtain⟨h1,h2,h3⟩:=h;have e1:=Hc bits (L.drop s.pos);have e2:=Eh bits (L.drop s.pos);rw [bu]at e2;exact⟨by simp only [IR.rI];omega,e1⟩
theorem Gx (l:List UInt8):qt l=(fp l).bind fun c=>if c.1.toNat=0 then some c.2 else none:=by
 cases l with
 | nil=>rfl
 | cons c l=>
  simp only [fp,ao];by_cases h:c=0
  ·subst h
   rfl
  ·have:c.toNat≠0:=fun g=>h (dC.1 (by simpa using g))
   rw [az this];unfold qt;split
   ·rename_i heq
    injection heq with e1 e2;exact absurd e1 h
   ·rfl
theorem IR.yx (L:List UInt8) (s:IR):(s.zero L).rest L=(s.rest L).bind qt:=by
 have h1:=IR.xY L s;have h2:=IR.BM L s;have hz:(s.rest L).bind qt=((s.rest L).bind fp).bind fun c=>if c.1.toNat=0 then some c.2 else none:=by
  cases s.rest L with
  | none=>rfl
  | some l=>simp only [ao,Gx]
 rw [hz];unfold eK at h1;unfold IR.zero;cases hb:(s.rest L).bind fp with
 | none=>
  rw [hb]at h1;simp only [Option.map_none]at h1;simp only [Option.bind_none];split
  ·exact h1
  ·simp [IR.rest]
 | some y=>
  rw [hb]at h1;have e:=h2 y hb;rw [e];simp only [bA]at h1;simp only [ao];split
  ·exact h1
  ·simp [IR.rest]
theorem IR.Jo {L:List UInt8} {s:IR} (h:s.ok L):(s.zero L).ok L:=by
 have:=IR.yT h;unfold IR.zero;split
 ·exact this
 ·exact⟨this.1,by simp,by simp⟩
theorem IW (l:List UInt8):tZ l=(fp l).bind fun c=>if c.1.toNat=64 then some (0,c.2)else if c.1.toNat=127 then some (1,c.2)else if c.1.toNat=126 then some (2,c.2)else none:=by
 cases l with
 | nil=>rfl
 | cons c l=>
  simp only [fp,ao];have key:∀k:UInt8,c.toNat=k.toNat ->c=k:=fun k h=>dC.1 h;unfold tZ;split
  ·rename_i heq;injection heq with e1 e2;subst e1 e2;rfl
  ·rename_i heq;injection heq with e1 e2;subst e1 e2;rfl
  ·rename_i heq;injection heq with e1 e2;subst e1 e2;rfl
  ·rename_i h1 h2 h3
   rw [az (fun g=>h1 l (by rw [key 0x40 g])),az (fun g=>h2 l (by rw [key 0x7f g])),az (fun g=>h3 l (by rw [key 0x7e g]))]
theorem IR.Fj (L:List UInt8) (s:IR):(s.kind L).2.rest L=eK tZ (s.rest L)/\∀y,(s.rest L).bind tZ=some y ->((s.kind L).1:Int)=y.1:=by
 have h1:=IR.xY L s;have h2:=IR.BM L s;have hz:(s.rest L).bind tZ=((s.rest L).bind fp).bind fun c=>if c.1.toNat=64 then some (0,c.2)else if c.1.toNat=127 then some (1,c.2)else if c.1.toNat=126 then some (2,c.2)else none:=by
  cases s.rest L with
  | none=>rfl
  | some l=>simp only [ao,IW]
 unfold eK at h1⊢;rw [hz];unfold IR.kind;cases hb:(s.rest L).bind fp with
 | none=>
  rw [hb]at h1;simp only [Option.map_none]at h1;simp only [Option.bind_none,Option.map_none];have he:¬ (s.byte L).2.err=0:=fun g=>by rw [IR.rest,aE g]at h1;cases h1
  refine⟨?_,fun y hy=>by cases hy⟩;split
  ·exact h1
  ·split
   ·exact h1
   ·split
    ·exact h1
    ·simp only
     exact h1
 | some y=>
  rw [hb]at h1;have e:=h2 y hb;rw [e];simp only [bA]at h1;simp only [ao];split
  ·exact⟨h1,fun z hz=>by injection hz with hz;rw [<- hz];rfl⟩
  ·split
   ·exact⟨h1,fun z hz=>by injection hz with hz;rw [<- hz];rfl⟩
   ·split
    ·exact⟨h1,fun z hz=>by injection hz with hz;rw [<- hz];rfl⟩
    ·refine⟨?_,fun z hz=>by cases hz⟩
     simp only [Option.map_none];split
     ·simp [IR.rest]
     ·rename_i he
      simp [IR.rest,he]
theorem IR.Kt {L:List UInt8} {s:IR} (h:s.ok L):(s.kind L).2.ok L:=by
 have:=IR.yT h;unfold IR.kind;split
 ·exact this
 ·split
  ·exact this
  ·split
   ·exact this
   ·simp only
    split
    ·exact⟨this.1,by simp,by simp⟩
    ·exact this
def IR.mV (L:List UInt8):Nat ->IR ->List Nat × IR
 | 0,s=>([],s)
 | n+1,s=>((s.kn L 1000).1::(IR.mV L n (s.kn L 1000).2).1,(IR.mV L n (s.kn L 1000).2).2)
theorem IR.yu (L:List UInt8):∀(n:Nat) (s:IR),(s.mV L n).2.rest L=eK (qu 1000 n) (s.rest L)/\ie (qu 1000 n) (s.rest L) ((s.mV L n).1.map fun x:Nat=>(x:Int))
 | 0,s=>by
  refine⟨?_,fun y hy=>?_⟩
  ·simp only [IR.mV,eK]
   cases s.rest L <;>rfl
  ·cases h:s.rest L with
   | none=>rw [h]at hy;simp at hy
   | some l=>rw [h]at hy;simp only [ao,qu,aS]at hy;rw [<- hy];rfl
 | n+1,s=>by
  have h1:=IR.sA L 1000 s;have h2:=IR.uq L 1000 s;obtain⟨h3,h4⟩:=IR.yu L n (s.kn L 1000).2;rw [h1]at h3 h4;simp only [IR.mV];rw [h3];cases hr:s.rest L with
  | none=>exact⟨rfl,fun y hy=>by simp at hy⟩
  | some l=>
   rw [hr]at h2 h4;simp only [eK,ao,qu]at h4⊢;cases ha:lN 1000 l with
   | none=>exact⟨rfl,fun y hy=>by simp [ha]at hy⟩
   | some a=>
    have e1:=h2 a (by simpa using ha);rw [ha]at h4;simp only [bA,ao];cases hb:qu 1000 n a.2 with
    | none=>exact⟨rfl,fun y hy=>by simp [ha,hb]at hy⟩
    | some b=>
     have e2:=h4 b (by simpa using hb);refine⟨rfl,fun y hy=>?_⟩;simp only [ao,ha,hb,aS]at hy;rw [<- hy,bF,e1,e2]
def IR.get (L:List UInt8) (c:Nat) (s:IR):fa × IR:=
 match fU c with
 | 2=>(⟨c,(s.kind L).1,0,[]⟩,(s.kind L).2)
 | 3=>(⟨c,(s.kn L 1000).1,0,[]⟩,(s.kn L 1000).2)
 | 4=>(⟨c,(((s.kn L 50).2.mV L (s.kn L 50).1).2.kn L 1000).1,0,((s.kn L 50).2.mV L (s.kn L 50).1).1.map fun x:Nat=>(x:Int)⟩,(((s.kn L 50).2.mV L (s.kn L 50).1).2.kn L 1000).2)
 | 5=>(⟨c,(s.kn L 1000).1,0,[]⟩,(s.kn L 1000).2.zero L)
 | 6=>(⟨c,(s.kn L 3).1,((s.kn L 3).2.kn L 4294967295).1,[]⟩,((s.kn L 3).2.kn L 4294967295).2)
 | 7=>(⟨c,0,0,[]⟩,s.zero L)
 | 8=>(⟨c,(s.rI L 32).1,0,[]⟩,(s.rI L 32).2)
 | 9=>(⟨c,(s.rI L 64).1,0,[]⟩,(s.rI L 64).2)
 | _=>(⟨c,0,0,[]⟩,s)
theorem IR.s8 (c:UInt8) (l:List UInt8) (hf:fU c.toNat≠0):
  (IR.get (c::l) c.toNat ⟨1,0⟩).2.rest (c::l)=(gH (c::l)).map (·.2)/\∀y,gH (c::l)=some y ->(IR.get (c::l) c.toNat ⟨1,0⟩).1=y.1:=by
 have h0:IR.rest (c::l) ⟨1,0⟩=some l:=rfl;have TC:=oO c.toNat;have hu:=fun lim=>IR.sA (c::l) lim ⟨1,0⟩;have hw:=fun lim=>IR.uq (c::l) lim ⟨1,0⟩;simp only [h0,eK,ao]at hu;simp only [h0,ie,ao]at hw;unfold IR.get gH;dsimp only;generalize hff:fU (c.toNat:Int)=f at*;rcases(show f=1\/f=2\/f=3\/f=4\/f=5\/f=6\/f=7\/f=8\/f=9 by omega)with rfl | rfl | rfl | rfl | rfl | rfl | rfl | rfl | rfl
 ·exact⟨rfl,fun y hy=>by injection hy with hy;rw [<- hy];rfl⟩
 ·obtain⟨h1,h2⟩:=IR.Fj (c::l) ⟨1,0⟩
  simp only [h0,eK,ao]at h1 h2;simp only [h1];cases hk:tZ l with
  | none=>exact⟨rfl,fun y hy=>by cases hy⟩
  | some k=>exact⟨rfl,fun y hy=>by simp only [ao,aS]at hy;rw [<- hy,h2 k hk]⟩
 ·simp only [hu]
  cases hk:lN 1000 l with
  | none=>exact⟨rfl,fun y hy=>by cases hy⟩
  | some k=>exact⟨rfl,fun y hy=>by simp only [ao,aS]at hy;rw [<- hy,hw 1000 k hk]⟩
 ·simp only
  generalize OC:IR.kn (c::l) 50 ⟨1,0⟩=s1;have a1:=hu 50;have a2:=hw 50;rw [OC]at a1 a2;obtain⟨b1,b2⟩:=IR.yu (c::l) s1.1 s1.2;generalize NC:s1.2.mV (c::l) s1.1=s2 at*;have c1:=IR.sA (c::l) 1000 s2.2;have c2:=IR.uq (c::l) 1000 s2.2;generalize PW:s2.2.kn (c::l) 1000=s3 at*;rw [b1]at c1 c2;rw [a1]at b1 b2 c1 c2;rw [c1];cases h1:lN 50 l with
  | none=>exact⟨rfl,fun y hy=>by cases hy⟩
  | some n=>
   have e1:=a2 n h1;rw [h1]at b2 c2;simp only [bA,ao,eK,e1]at b2 c2⊢;cases h2:qu 1000 n.1 n.2 with
   | none=>exact⟨rfl,fun y hy=>by cases hy⟩
   | some t=>
    have e2:=b2 t (by simpa using h2);rw [h2]at c2;simp only [bA,ao]at c2⊢;cases h3:lN 1000 t.2 with
    | none=>exact⟨rfl,fun y hy=>by cases hy⟩
    | some x=>
     have e3:=c2 x (by simpa using h3);exact⟨rfl,fun y hy=>by simp only [ao,aS]at hy;rw [<- hy,e3,e2]⟩
 ·simp only [IR.yx,hu]
  cases hk:lN 1000 l with
  | none=>exact⟨rfl,fun y hy=>by cases hy⟩
  | some k=>
   simp only [bA,ao];cases hz:qt k.2 with
   | none=>exact⟨rfl,fun y hy=>by cases hy⟩
   | some r=>exact⟨rfl,fun y hy=>by simp only [ao,aS]at hy;rw [<- hy,hw 1000 k hk]⟩
 ·have c1:=IR.sA (c::l) 4294967295 (IR.kn (c::l) 3 ⟨1,0⟩).2
  have c2:=IR.uq (c::l) 4294967295 (IR.kn (c::l) 3 ⟨1,0⟩).2;rw [hu]at c1 c2;simp only [c1];cases hk:lN 3 l with
  | none=>exact⟨rfl,fun y hy=>by cases hy⟩
  | some k=>
   rw [hk]at c2;simp only [bA,ao,eK]at c2⊢;cases hz:lN 4294967295 k.2 with
   | none=>exact⟨rfl,fun y hy=>by cases hy⟩
   | some r=>exact⟨rfl,fun y hy=>by simp only [ao,aS]at hy;rw [<- hy,hw 3 k hk,c2 r (by simpa using hz)]⟩
 ·simp only [IR.yx,h0,ao]
  cases hz:qt l with
  | none=>exact⟨rfl,fun y hy=>by cases hy⟩
  | some r=>exact⟨rfl,fun y hy=>by simp only [ao,aS]at hy;rw [<- hy]⟩
 ·have c1:=IR.A2 (c::l) 32 ⟨1,0⟩ rfl
  have c2:=IR.DY (c::l) 32 ⟨1,0⟩;simp only [h0,eK,ao]at c1;simp only [h0,ie,ao]at c2;simp only [c1];cases hk:Dt 32 l with
  | none=>exact⟨rfl,fun y hy=>by cases hy⟩
  | some k=>exact⟨rfl,fun y hy=>by simp only [ao,aS]at hy;rw [<- hy,c2 k hk]⟩
 ·have c1:=IR.A2 (c::l) 64 ⟨1,0⟩ rfl
  have c2:=IR.DY (c::l) 64 ⟨1,0⟩;simp only [h0,eK,ao]at c1;simp only [h0,ie,ao]at c2;simp only [c1];cases hk:Dt 64 l with
  | none=>exact⟨rfl,fun y hy=>by cases hy⟩
  | some k=>exact⟨rfl,fun y hy=>by simp only [ao,aS]at hy;rw [<- hy,c2 k hk]⟩
theorem iX (n a b:Int) (w:World):Calls prog 230 #[.int .i64 n, .int .i64 a, .int .i64 b] w (eL (mE n a b) w):=by
 by_cases q0:a <=n;rotate_left
 ·have f0:decide (a <=n)=false:=aw q0
  have HB:=V (show mE n a b=false by rw [mE,f0];rfl);go_enter func230,ntmps230;go_wp2;go_ret;exact⟨by rw [HB.out];rfl,an _ _⟩
 have f0:decide (a <=n)=true:=ay q0;by_cases q1:n <=b
 ·have f1:decide (n <=b)=true:=ay q1
  have HB:=V (show mE n a b=true by rw [mE,f0,f1];rfl);go_enter func230,ntmps230;go_wp2;go_ret;exact⟨by rw [HB.out];rfl,an _ _⟩
 ·have f1:decide (n <=b)=false:=aw q1
  have HB:=V (show mE n a b=false by rw [mE,f0,f1];rfl);go_enter func230,ntmps230;go_wp2;go_ret;exact⟨by rw [HB.out];rfl,an _ _⟩
def Mt (op:Int) (w:World) (e:Ending) (w':World):Prop:=e= .returned (.tuple #[.int .i64 (tR op).1, .int .i64 (tR op).2])/\Below w.heap.size w w'
theorem rv (op:Int) (w:World):Calls prog 229 #[.int .i64 op] w (Mt op w):=by
 have hb:=an w.heap.size w;go_enter func229,ntmps229;go_wp2_with fail;refine(iX op 69 79 _).mono ?_;rintro x w1 ⟨rfl,NJ⟩;have hb:=ej hb NJ;clear NJ;cases h1:mE op 69 79
 ·have H1:=V h1
  clear h1;go_wp2_with fail;refine(iX op 103 120 _).mono ?_;rintro x w2 ⟨rfl,NJ⟩;have hb:=ej hb NJ;clear NJ;cases h2:mE op 103 120
  ·have H2:=V h2
   clear h2;go_wp2_with fail;refine(iX op 80 90 _).mono ?_;rintro x w3 ⟨rfl,NJ⟩;have hb:=ej hb NJ;clear NJ;cases h3:mE op 80 90
   ·have H3:=V h3
    clear h3;go_wp2_with fail;refine(iX op 121 138 _).mono ?_;rintro x w4 ⟨rfl,NJ⟩;have hb:=ej hb NJ;clear NJ;cases h4:mE op 121 138
    ·have H4:=V h4
     clear h4;go_wp2
     go_ret2
     exact⟨by rw [tR,H1.out,H2.out,H3.out,H4.out];rfl,hb⟩
    ·obtain⟨g1,g2⟩:=kb.1 h4
     have H4:=V h4;clear h4;go_wp2
     go_ret2
     exact⟨by rw [tR,H1.out,H2.out,H3.out,H4.out];rfl,hb⟩
   ·obtain⟨g1,g2⟩:=kb.1 h3
    have H3:=V h3;clear h3;go_wp2
    go_ret2
    exact⟨by rw [tR,H1.out,H2.out,H3.out];rfl,hb⟩
  ·have H2:=V h2
   clear h2;go_wp2
   go_ret2
   exact⟨by rw [tR,H1.out,H2.out];rfl,hb⟩
 ·have H1:=V h1
  clear h1;go_wp2
  go_ret2
  exact⟨by rw [tR,H1.out];rfl,hb⟩
def IK (op:Int) (w:World) (e:Ending) (w':World):Prop:=
 ∃v,e= .returned (.tuple #[v, .int .i64 (fh op).2.1, .bool (fh op).2.2])/\eA 1 fk w' v (fh op).1/\Below w.heap.size w w'
theorem lY (w:World) (x:Int) (t:TypeId):eA 1 fk (w.alloc (.cells #[.int .i64 x] t)) (.slice (some ⟨w.heap.size,0,none⟩) 1 1) [x]:=by
 refine⟨_,1,rfl,ag _,by simp [maxLen],fun i y hy=>⟨w.heap.size,0,rfl,by simp,fun j u hu=>?_⟩⟩;rw [bL]
 match i,hy with
 | 0,hy=>
  simp at hy;subst hy
  match j,hu with
  | 0,hu=>simp [fk]at hu;subst hu;rfl
  | j+1,hu=>simp [fk]at hu
 | i+1,hy=>simp at hy
theorem Fp (op:Int) (w:World):Calls prog 133 #[.int .i64 op] w (IK op w):=by
 have hb:=an w.heap.size w;have O4:∀w1:World,Below w1.heap.size w1 w1:=fun w1=>an _ _;by_cases q1:op=167
 ·subst q1
  go_enter func133,ntmps133;go_wp2
  go_ret3
  exact⟨_,rfl,lY w 2 _,hb.alloc (ag _) _⟩
 have f1:(op==167)=false:=eh q1;by_cases q2:op=172
 ·subst q2
  go_enter func133,ntmps133;go_wp2
  go_ret3
  exact⟨_,rfl,lY w 1 _,hb.alloc (ag _) _⟩
 have f2:(op==172)=false:=eh q2;by_cases q3:op=173
 ·subst q3
  go_enter func133,ntmps133;go_wp2
  go_ret3
  exact⟨_,rfl,lY w 1 _,hb.alloc (ag _) _⟩
 have f3:(op==173)=false:=eh q3;have HQ:Hid (op≠167/\op≠172/\op≠173):=V ⟨q1,q2,q3⟩;clear q1 q2 q3 O4;go_enter func133,ntmps133;go_wp2_with fail;refine(rv op _).mono ?_;rintro x w1 ⟨rfl,Nx⟩;obtain⟨k,hk⟩:∃k,(tR op).1=k:=⟨_,rfl⟩;obtain⟨l,hl⟩:∃l,(tR op).2=l:=⟨_,rfl⟩;rw [hk,hl];have HK:=V hk;have HL:=V hl;replace hb:=ej hb Nx;clear hk hl Nx f1 f2 f3;by_cases q4:k=0
 ·have f4:(k==0)=true:=eV q4
  have H4:=V q4;clear q4;go_wp2
  go_ret3
  have:fh op=([],0,false):=by rw [fh,az HQ.out.1,az HQ.out.2.1,az HQ.out.2.2,HK.out,aE H4.out]
  exact⟨_,by rw [this];rfl,by rw [this];exact eA.nil _,hb⟩
 have f4:(k==0)=false:=eh q4;have H4:=V (show k≠0 from q4);clear q4;by_cases q5:l=69
 ·have f5:(l==69)=true:=eV q5
  have H5:=V q5;clear q5;go_wp2
  go_ret3
  have:fh op=([k],1,true):=by rw [fh,az HQ.out.1,az HQ.out.2.1,az HQ.out.2.2,HK.out,HL.out,az H4.out,aE H5.out]
  exact⟨_,by rw [this];rfl,by rw [this];exact lY w1 k _,hb.alloc hb.size _⟩
 have f5:(l==69)=false:=eh q5;have H5:=V (show l≠69 from q5);clear q5;go_wp2_with fail;refine(iX l 70 79 _).mono ?_;rintro x w2 ⟨rfl,NJ⟩;replace hb:=ej hb NJ;clear NJ f4 f5;cases h6:mE l 70 79 with
 | true=>
  have H6:=V h6;clear h6;go_wp2
  go_ret3
  have:fh op=([k,k],1,true):=by rw [fh,az HQ.out.1,az HQ.out.2.1,az HQ.out.2.2,HK.out,HL.out,az H4.out,az H5.out,H6.out];rfl
  exact⟨_,by rw [this];rfl,by rw [this];exact qI w2 k k _,hb.alloc hb.size _⟩
 | false=>
  have H6:=V h6;clear h6;go_wp2_with fail;refine(iX l 103 105 _).mono ?_;rintro x w3 ⟨rfl,NJ⟩;replace hb:=ej hb NJ;clear NJ;cases h7:mE l 103 105 with
  | true=>
   have H7:=V h7;clear h7;go_wp2
   go_ret3
   have:fh op=([k],k,true):=by rw [fh,az HQ.out.1,az HQ.out.2.1,az HQ.out.2.2,HK.out,HL.out,az H4.out,az H5.out,H6.out,H7.out];rfl
   exact⟨_,by rw [this];rfl,by rw [this];exact lY w3 k _,hb.alloc hb.size _⟩
  | false=>
   have H7:=V h7;clear h7;go_wp2
   go_ret3
   have:fh op=([k,k],k,true):=by rw [fh,az HQ.out.1,az HQ.out.2.1,az HQ.out.2.2,HK.out,HL.out,az H4.out,az H5.out,H6.out,H7.out];rfl
   exact⟨_,by rw [this];rfl,by rw [this];exact qI w3 k k _,hb.alloc hb.size _⟩
def DP (op:Int) (w:World) (e:Ending) (w':World):Prop:=e= .returned (.int .i64 (fU op))/\Below w.heap.size w w'
theorem H9 (w:World):∀op∈([0,1,5,11,15,26,27,2,3,4,12,13,16,32,33,34,35,36,14,17,40,41,44,45,54,55,58,63,64,65,66]:List Int),Calls prog 146 #[.int .i64 op] w (DP op w):=by
 intro op h;simp only [bx,bI,cH]at h;rcases h with rfl | rfl | rfl | rfl | rfl | rfl | rfl | rfl | rfl | rfl | rfl | rfl | rfl | rfl | rfl | rfl | rfl | rfl | rfl | rfl | rfl | rfl | rfl | rfl | rfl | rfl | rfl | rfl | rfl | rfl | rfl
 all_goals
  go_enter func146,ntmps146;go_wp2;go_ret;exact⟨rfl,an _ _⟩
theorem uQ (op:Int) (w:World):Calls prog 146 #[.int .i64 op] w (DP op w):=by
 by_cases h:op∈([0,1,5,11,15,26,27,2,3,4,12,13,16,32,33,34,35,36,14,17,40,41,44,45,54,55,58,63,64,65,66]:List Int)
 ·exact H9 w op h
 simp only [bx,bI,cH,not_or]at h;obtain⟨q0,q1,q5,QN,q15,q26,q27,q2,q3,q4,q12,q13,q16,q32,q33,q34,q35,q36,q14,q17,q40,q41,q44,q45,q54,q55,q58,q63,q64,q65,q66⟩:=h;have HF:Hid (fU op=if(fh op).2.2=true then 1 else 0):=V (by
  unfold fU;rw [az (by omega),az (by omega),az (by omega),az q14,az q17,az (by omega),az (by omega),az q65,az q66])
 replace q0:=eh q0;replace q1:=eh q1;replace q5:=eh q5;replace QN:=eh QN;replace q15:=eh q15;replace q26:=eh q26;replace q27:=eh q27;replace q2:=eh q2;replace q3:=eh q3;replace q4:=eh q4;replace q12:=eh q12;replace q13:=eh q13;replace q16:=eh q16;replace q32:=eh q32;replace q33:=eh q33;replace q34:=eh q34;replace q35:=eh q35;replace q36:=eh q36;replace q14:=eh q14;replace q17:=eh q17;replace q40:=eh q40;replace q41:=eh q41;replace q44:=eh q44;replace q45:=eh q45;replace q54:=eh q54;replace q55:=eh q55;replace q58:=eh q58;replace q63:=eh q63;replace q64:=eh q64;replace q65:=eh q65;replace q66:=eh q66;go_enter func146,ntmps146;go_wp2_with fail;refine(Fp op _).mono ?_;rintro x w1 ⟨v,rfl,-,hb⟩;clear q0 q1 q5 QN q15 q26 q27 q2 q3 q4 q12 q13 q16 q32 q33 q34 q35 q36 q14 q17 q40 q41 q44 q45 q54 q55 q58 q63 q64 q65 q66;cases hk:(fh op).2.2 with
 | true=>
  have HK:=V hk;clear hk;go_wp2;go_ret;exact⟨by rw [HF.out,aE HK.out];rfl,hb⟩
 | false=>
  have HK:=V hk;clear hk;go_wp2;go_ret;exact⟨by rw [HF.out,az (by rw [HK.out];decide)];rfl,hb⟩
theorem kE (n a b:Int) (w:World):Calls prog 147 #[.int .i64 n, .int .i64 a, .int .i64 b] w (eL (mE n a b) w):=by
 by_cases q0:a <=n;rotate_left
 ·have f0:decide (a <=n)=false:=aw q0
  have HB:=V (show mE n a b=false by rw [mE,f0];rfl);go_enter func147,ntmps147;go_wp2;go_ret;exact⟨by rw [HB.out];rfl,an _ _⟩
 have f0:decide (a <=n)=true:=ay q0;by_cases q1:n <=b
 ·have f1:decide (n <=b)=true:=ay q1
  have HB:=V (show mE n a b=true by rw [mE,f0,f1];rfl);go_enter func147,ntmps147;go_wp2;go_ret;exact⟨by rw [HB.out];rfl,an _ _⟩
 ·have f1:decide (n <=b)=false:=aw q1
  have HB:=V (show mE n a b=false by rw [mE,f0,f1];rfl);go_enter func147,ntmps147;go_wp2;go_ret;exact⟨by rw [HB.out];rfl,an _ _⟩
theorem nT (n:Int) (w:World):Calls prog 148 #[.int .i64 n] w (eL (mE n 0 1000) w):=by
 go_enter func148,ntmps148;go_wp2_with fail;refine(kE n 0 1000 _).mono ?_;rintro x w1 ⟨rfl,hb⟩;go_wp2;go_ret;exact⟨rfl,hb⟩
theorem fC (w:World) (X i:Nat) (v:Value):ep (fun k=>k=X) w (w.setCell ⟨X,i,none⟩ v):=⟨rfl,rfl,rfl,by simp,fun k _ hk=>cM w ⟨X,i,none⟩ v k hk⟩
def ug (w0 w:World) (R:Nat) (a:Option Addr) (cap:Nat) (L:List UInt8) (s:IR):Prop:=
 eS w R #[.slice a L.length cap, .int .i64 s.pos, .int .i64 s.err] 366/\eZ w0 (.slice a L.length cap) L/\Below w0.heap.size w0 w/\w0.heap.size <=R/\s.ok L
def A5 (w0 w:World) (R:Nat) (a:Option Addr) (cap:Nat) (L:List UInt8) (v:Value) (s:IR) (e:Ending) (w':World):Prop:=
 e= .returned v/\ug w0 w' R a cap L s/\ep (fun k=>k=R) w w'
theorem ug.keeps {w0 w w':World} {R:Nat} {a:Option Addr} {cap:Nat} {L:List UInt8} {s:IR} {S:Nat ->Prop} (h:ug w0 w R a cap L s) (hk:ep S w w') (hR:¬ S R) (hS:∀i,S i ->w0.heap.size <=i):ug w0 w' R a cap L s:=
 ⟨h.1.keeps hk hR,h.2.1,h.2.2.1.trans (hk.below h.2.2.1.size hS),h.2.2.2⟩
theorem ug.set {w0 w:World} {R:Nat} {a:Option Addr} {cap:Nat} {L:List UInt8} {s s':IR} (h:ug w0 w R a cap L s) {i:Nat} {v:Value}
  (hc:(#[.slice a L.length cap, .int .i64 s.pos, .int .i64 s.err]:Array Value).setIfInBounds i v=#[.slice a L.length cap, .int .i64 s'.pos, .int .i64 s'.err]) (ho:s'.ok L):ug w0 (w.setCell ⟨R,i,none⟩ v) R a cap L s':=
 ⟨by rw [<- hc];exact h.1.set i v,h.2.1,h.2.2.1.setCell h.2.2.2.1 _,h.2.2.2.1,ho⟩
theorem ug.drew {w0 w:World} {R:Nat} {a:Option Addr} {cap:Nat} {L:List UInt8} {s:IR} (h:ug w0 w R a cap L s):ug w0 w.drew R a cap L s:=⟨h.1.drew,h.2.1,h.2.2.1.drew,h.2.2.2⟩
theorem ug.bytes {w0 w:World} {R:Nat} {a:Option Addr} {cap:Nat} {L:List UInt8} {s:IR} (h:ug w0 w R a cap L s):eZ w (.slice a L.length cap) L:=h.2.1.below h.2.2.1
theorem rz (w0 w:World) (R:Nat) (a:Option Addr) (cap:Nat) (L:List UInt8) (s:IR) (h:ug w0 w R a cap L s):
  Calls prog 314 #[.pointer (some ⟨R,0,none⟩)] w (A5 w0 w R a cap L (.int .i64 (s.byte L).1) (s.byte L).2):=by
 have N3:=IR.yT h.2.2.2.2;obtain⟨pos,err⟩:=s;have N2:=h.1;have Nt:=h.2.2.2.2;obtain⟨o1,o2,o3⟩:=Nt;simp only at o1 o2 o3;obtain⟨_,_,Qr,Sx,OS,-⟩:=h.2.1;injection Qr with e1 e2 e3;subst e1 e3;clear e2;unfold maxLen at OS;have d0:=N2.cell 0;have d1:=N2.cell 1;have d2:=N2.cell 2;have z1:=N2.free 1;have z2:=N2.free 2;have H:=V h;clear h N2;simp only at d1 d2;by_cases q1:err=0;rotate_left
 ·have f1:=fB q1
  have HB:=V (show IR.byte L ⟨pos,err⟩=(0,⟨pos,err⟩)by unfold IR.byte;exact if_neg q1);clear q1 N3;go_enter func314,ntmps314;go_wp2;go_ret;exact⟨by rw [HB.out];rfl,by rw [HB.out];exact H.out,ep.refl _ _⟩
 subst q1;by_cases q2:pos=L.length
 ·have f2:((pos:Int)==(L.length:Int))=true:=eV (by omega)
  have HB:=V (show IR.byte L ⟨pos,0⟩=(0,⟨pos,2⟩)by
   unfold IR.byte;rw [aE rfl,show L[pos]?=none from da (by omega)])
  have HO:=V N3;clear q2 N3;go_enter func314,ntmps314;go_wp2_with fail;refine eB (fun w'=>w'.cell? ⟨R,0,none⟩=some (.slice a L.length cap)/\w'.cell? ⟨R,1,none⟩=some (.int .i64 pos)) (up 0 11 []) (by kernel_rfl) (by kernel_rfl) ⟨d0,d1⟩ ?_;iterate 11 (first | (apply sk rfl rfl;simp only [pt]) | (apply eo rfl rfl rfl;·(rintro w' ⟨t0,t1⟩;go_wp2;exact⟨rfl,rfl,rfl⟩)))
  refine eW ?_;refine aA ?_;go_wp2;go_ret;exact⟨by rw [HB.out];rfl,by rw [HB.out];exact H.out.drew.set rfl (by have:=HO.out;rw [HB.out]at this;exact this),(ep.refl _ _).drew.trans (fC _ R 2 _) (fun _ h=> .inl h)⟩
 ·have f2:((pos:Int)==(L.length:Int))=false:=eh (by omega)
  have Nu:pos < L.length:=by omega
  obtain⟨c,hc⟩:∃c,L[pos]?=some c:=⟨_,aq Nu⟩;have HB:=V (show IR.byte L ⟨pos,0⟩=(c.toNat,⟨pos+1,0⟩)by
   unfold IR.byte;rw [aE rfl,hc])
  have HO:=V N3;obtain⟨_,_,Qr,-,-,Nk⟩:=H.out.bytes;injection Qr with e1 e2 e3;subst e1 e3;obtain⟨g,off,rfl,hg⟩:=Nk pos c hc;have hgR:g≠R:=by
   have h1:=aO w _ hg;obtain⟨_,_,Qr,-,-,hcells0⟩:=H.out.2.1;injection Qr with e1 e2 e3;obtain⟨g',off',e4,TD⟩:=hcells0 pos c hc;rw [<- e1]at e4;injection e4 with e4;injection e4 with e4 e5;have h2:=aO w0 _ TD;have h3:=H.out.2.2.2.1;intro h4;rw [h4]at e4;rw [<- e4]at h2;exact absurd h3 (Nat.not_le.2 h2)
  have Rp:((w.drew.setCell ⟨R,1,none⟩ (.int .i64 ((pos:Int)+1)))).cell? ⟨g,off+pos,none⟩=some (bv c):=by
   rw [aY (w:=w) (a:=⟨g,off+pos,none⟩) (cM w.drew ⟨R,1,none⟩ _ g hgR)];exact hg
  have RU:=(H.out.drew.1).set 1 (.int .i64 ((pos:Int)+1));have d0':(w.drew.setCell ⟨R,1,none⟩ (.int .i64 ((pos:Int)+1))).cell? ⟨R,0,none⟩=some (.slice (some ⟨g,off,none⟩) L.length cap):=RU.cell 0;have d1':(w.drew.setCell ⟨R,1,none⟩ (.int .i64 ((pos:Int)+1))).cell? ⟨R,1,none⟩=some (.int .i64 ((pos:Int)+1)):=RU.cell 1;have hcb:(c.toNat:Int) <=255:=by have:=c.toNat_lt;omega
  have hcb0:(0:Int) <=(c.toNat:Int):=by omega
  clear q2 N3 Nk e2 hc hg hgR RU;go_enter func314,ntmps314;go_wp2_with fail;refine eB (fun w'=>w'.cell? ⟨R,0,none⟩=some (.slice (some ⟨g,off,none⟩) L.length cap)/\w'.cell? ⟨R,1,none⟩=some (.int .i64 pos)) (up 0 11 []) (by kernel_rfl) (by kernel_rfl) ⟨d0,d1⟩ ?_;iterate 11 (first | (apply sk rfl rfl;simp only [pt]) | (apply eo rfl rfl rfl;·(rintro w' ⟨t0,t1⟩;go_wp2;exact⟨rfl,rfl,rfl⟩)))
  refine eW ?_;refine aA ?_;go_wp2_with fail;refine eB (fun w'=>w'.cell? ⟨R,0,none⟩=some (.slice (some ⟨g,off,none⟩) L.length cap)/\w'.cell? ⟨R,1,none⟩=some (.int .i64 ((pos:Int)+1))/\w'.cell? ⟨g,off+pos,none⟩=some (bv c)) (up 0 13 []) (by kernel_rfl) (by kernel_rfl) ⟨d0',d1',Rp⟩ ?_;iterate 13 (first | (apply sk rfl rfl;simp only [pt]) | (apply eo rfl rfl rfl;·(rintro w' ⟨t0,t1,t2⟩;go_wp2;exact⟨rfl,rfl,rfl⟩)))
  refine eW ?_;refine aA ?_;go_wp2;go_ret;exact⟨by rw [HB.out];rfl,by rw [HB.out];exact(H.out.drew.set rfl (by have:=HO.out;rw [HB.out]at this;exact this)).drew,((ep.refl _ _).drew.trans (fC _ R 1 _) (fun _ h=> .inl h)).drew⟩
theorem wg (w0 w:World) (R:Nat) (a:Option Addr) (cap:Nat) (L:List UInt8) (s:IR) (h:ug w0 w R a cap L s):
  Calls prog 317 #[.pointer (some ⟨R,0,none⟩)] w (A5 w0 w R a cap L (.tuple #[]) (s.zero L)):=by
 have N3:=IR.Jo h.2.2.2.2;have HH:=V h;obtain⟨s1,OC⟩:∃s1,(s.byte L).2=s1:=⟨_,rfl⟩;obtain⟨v1,Qb⟩:∃v1,(s.byte L).1=v1:=⟨_,rfl⟩;have HO:=V N3;have H1:=V OC;have V1:=V Qb;clear h N3 OC Qb;go_enter func317,ntmps317;go_wp2_with fail;refine(rz w0 _ R a cap L s HH.out).mono ?_;rintro e w1 ⟨rfl,h1,hk⟩;rw [V1.out];rw [H1.out]at h1;have z2:=h1.1.free 2;have d2:w1.cell? ⟨R,2,none⟩=some (.int .i64 s1.err):=h1.1.cell 2;have HI:=V h1;clear h1;by_cases q:v1=0
 ·have f:=kT (show(v1:Int)=0 by omega)
  have HZ:=V (show s.zero L=s1 by unfold IR.zero;rw [V1.out,if_pos q,H1.out]);clear q;go_wp2
  go_end0
  exact⟨rfl,by rw [HZ.out];exact HI.out,hk⟩
 ·have f:=fB (show(v1:Int)≠0 by omega)
  have HZ:=V (show s.zero L=⟨s1.pos,1⟩by unfold IR.zero;rw [V1.out,if_neg q,H1.out]);clear q;go_wp2
  go_end0
  exact⟨rfl,by rw [HZ.out];exact HI.out.set rfl (by have:=HO.out;rw [HZ.out]at this;exact this),hk.trans (fC _ R 2 _) (fun _ h=> .inl h)⟩
theorem AB (a:Option Addr) (cap:Nat) {L:List UInt8} {pos:Nat} (h:pos <=L.length):∃a2 Nr,
  (∀wx,(Instr.slice 104 (.slice a L.length cap) (some (.int .i64 pos)) none none).run prog wx= .ok (.slice a2 (L.drop pos).length Nr) wx)/\
  (∀wy,eZ wy (.slice a L.length cap) L ->eZ wy (.slice a2 (L.drop pos).length Nr) (L.drop pos)):=by
 obtain⟨a2,Nr,h1,h2,-⟩:=oY (show L=L.take pos++L.drop pos from(cE pos L).symm) a cap;rw [aP,cq h]at h1;exact⟨a2,Nr,h1,h2⟩
theorem EU (l:List UInt8):(iB 32 l).1 < 4294967296:=by
 unfold iB;split
 ·simp
 ·split
  ·rename_i h
   simpa using h.2
  ·simp
theorem lS (w0 w:World) (R:Nat) (a:Option Addr) (cap:Nat) (L:List UInt8) (s:IR) (h:ug w0 w R a cap L s) (lim:Nat):
  Calls prog 316 #[.pointer (some ⟨R,0,none⟩), .int .i64 lim] w (A5 w0 w R a cap L (.int .i64 (s.kn L lim).1) (s.kn L lim).2):=by
 have N3:=IR.Lx (lim:=lim) h.2.2.2.2;obtain⟨pos,err⟩:=s;have N2:=h.1;have Nt:=h.2.2.2.2;obtain⟨o1,o2,o3⟩:=Nt;simp only at o1 o2 o3;obtain⟨_,_,Qr,Sx,OS,-⟩:=h.2.1;injection Qr with e1 e2 e3;subst e1 e3;clear e2;unfold maxLen at OS;have d0:=N2.cell 0;have d1:=N2.cell 1;have d2:=N2.cell 2;have z1:=N2.free 1;have z2:=N2.free 2;have H:=V h;clear h N2;simp only at d1 d2;by_cases q1:err=0;rotate_left
 ·have f1:=fB q1
  have HB:=V (show IR.kn L lim ⟨pos,err⟩=(0,⟨pos,err⟩)by unfold IR.kn;exact if_neg q1);clear q1 N3;go_enter func316,ntmps316;go_wp2;go_ret;exact⟨by rw [HB.out];rfl,by rw [HB.out];exact H.out,ep.refl _ _⟩
 subst q1;obtain⟨a2,Nr,Qr,hi⟩:=AB a cap o1;obtain⟨n,k,er,NO⟩:∃n k er,iB 32 (L.drop pos)=(n,k,er):=⟨_,_,_,rfl⟩;have hn:n < 4294967296:=by have:=EU (L.drop pos);rw [NO]at this;exact this
 have hk:pos+k <=L.length:=by have:=yR 32 (L.drop pos);rw [NO,bu]at this;simp only at this;omega
 have HB:=V (show IR.kn L lim ⟨pos,0⟩=if er=0 then(if lim < n then(0,⟨pos,1⟩)else(n,⟨pos+k,0⟩))else(0,⟨pos,er⟩)by unfold IR.kn;simp only [NO,if_true]);obtain⟨q,hq⟩:∃q,L.drop pos=q:=⟨_,rfl⟩;rw [hq]at Qr hi NO;have HI:=V hi;have HO:=V N3;clear hi N3 hq;by_cases q2:er=0;rotate_left
 ·have f2:=fB q2
  have f3:=eh q2;replace HB:=V (show IR.kn L lim ⟨pos,0⟩=(0,⟨pos,er⟩)by rw [HB.out,az q2]);clear q2;go_enter func316,ntmps316;go_wp2_with fail;refine eB (fun w'=>w'.cell? ⟨R,0,none⟩=some (.slice a L.length cap)/\w'.cell? ⟨R,1,none⟩=some (.int .i64 pos)) (up 0 9 ((9,false)::up 10 7 [])) (by kernel_rfl) (by kernel_rfl) ⟨d0,d1⟩ ?_;iterate 9 (first | (apply sk rfl rfl;simp only [pt]) | (apply eo rfl rfl rfl;·(rintro w' ⟨t0,t1⟩;go_wp2;exact⟨rfl,rfl,rfl⟩)))
  refine ew rfl rfl ?_;go_wp2_with fail;refine(wW _ q _ _ ((HI.out _ H.out.bytes).below (an _ _).drew) (by omega) (by omega)).mono ?_;rintro e w1 ⟨rfl,hb⟩;have NJ:Below w.heap.size w w1:=fY hb;rw [NO];have Ob:=H.out.1.below NJ H.out.1.lt;have d0':w1.cell? ⟨R,0,none⟩=some (.slice a L.length cap):=Ob.cell 0;have d1':w1.cell? ⟨R,1,none⟩=some (.int .i64 pos):=Ob.cell 1;have d2':w1.cell? ⟨R,2,none⟩=some (.int .i64 0):=Ob.cell 2;have z1':=Ob.free 1;have z2':=Ob.free 2;have h1:ug w0 w1 R a cap L ⟨pos,0⟩:=⟨Ob,H.out.2.1,H.out.2.2.1.trans (NJ.mono H.out.2.2.1.size),H.out.2.2.2⟩;have H1:=V h1;have HB1:=V NJ;clear h1 Ob hb NJ d0 d1 d2 z1 z2 Qr NO;go_wp2_with fail;refine⟨⟨d0',d1'⟩,?_⟩;iterate 7 (first | (apply sk rfl rfl;simp only [pt]) | (apply eo rfl rfl rfl;·(rintro w' ⟨t0,t1⟩;go_wp2;exact⟨rfl,rfl,rfl⟩)))
  refine eW ?_;refine aA ?_;go_wp2;go_ret;have hk:=(ep.et (S:=fun k=>k=R) HB1.out).trans (fC w1 R 2 (.int .i64 er)) (fun _ h=> .inl h);exact⟨by rw [HB.out];rfl,by rw [HB.out];exact H1.out.set rfl (by have:=HO.out;rw [HB.out]at this;exact this),hk⟩
 subst q2;by_cases q3:lim < n
 ·have f3:decide (lim < n)=true:=ay q3
  replace HB:=V (show IR.kn L lim ⟨pos,0⟩=(0,⟨pos,1⟩)by rw [HB.out,aE rfl,aE q3]);clear q3;go_enter func316,ntmps316;go_wp2_with fail;refine eB (fun w'=>w'.cell? ⟨R,0,none⟩=some (.slice a L.length cap)/\w'.cell? ⟨R,1,none⟩=some (.int .i64 pos)) (up 0 9 ((9,false)::up 10 7 [])) (by kernel_rfl) (by kernel_rfl) ⟨d0,d1⟩ ?_;iterate 9 (first | (apply sk rfl rfl;simp only [pt]) | (apply eo rfl rfl rfl;·(rintro w' ⟨t0,t1⟩;go_wp2;exact⟨rfl,rfl,rfl⟩)))
  refine ew rfl rfl ?_;go_wp2_with fail;refine(wW _ q _ _ ((HI.out _ H.out.bytes).below (an _ _).drew) (by omega) (by omega)).mono ?_;rintro e w1 ⟨rfl,hb⟩;have NJ:Below w.heap.size w w1:=fY hb;rw [NO];have Ob:=H.out.1.below NJ H.out.1.lt;have d0':w1.cell? ⟨R,0,none⟩=some (.slice a L.length cap):=Ob.cell 0;have d1':w1.cell? ⟨R,1,none⟩=some (.int .i64 pos):=Ob.cell 1;have d2':w1.cell? ⟨R,2,none⟩=some (.int .i64 0):=Ob.cell 2;have z1':=Ob.free 1;have z2':=Ob.free 2;have h1:ug w0 w1 R a cap L ⟨pos,0⟩:=⟨Ob,H.out.2.1,H.out.2.2.1.trans (NJ.mono H.out.2.2.1.size),H.out.2.2.2⟩;have H1:=V h1;have HB1:=V NJ;clear h1 Ob hb NJ d0 d1 d2 z1 z2 Qr NO;go_wp2_with fail;refine⟨⟨d0',d1'⟩,?_⟩;iterate 7 (first | (apply sk rfl rfl;simp only [pt]) | (apply eo rfl rfl rfl;·(rintro w' ⟨t0,t1⟩;go_wp2;exact⟨rfl,rfl,rfl⟩)))
  refine eW ?_;refine aA ?_;go_wp2;go_ret;have hk:=(ep.et (S:=fun k=>k=R) HB1.out).trans (fC w1 R 2 (.int .i64 1)) (fun _ h=> .inl h);exact⟨by rw [HB.out];rfl,by rw [HB.out];exact H1.out.set rfl (by have:=HO.out;rw [HB.out]at this;exact this),hk⟩
 ·have f3:decide (lim < n)=false:=aw q3
  replace HB:=V (show IR.kn L lim ⟨pos,0⟩=(n,⟨pos+k,0⟩)by rw [HB.out,aE rfl,az q3]);clear q3;go_enter func316,ntmps316;go_wp2_with fail;refine eB (fun w'=>w'.cell? ⟨R,0,none⟩=some (.slice a L.length cap)/\w'.cell? ⟨R,1,none⟩=some (.int .i64 pos)) (up 0 9 ((9,false)::up 10 7 [])) (by kernel_rfl) (by kernel_rfl) ⟨d0,d1⟩ ?_;iterate 9 (first | (apply sk rfl rfl;simp only [pt]) | (apply eo rfl rfl rfl;·(rintro w' ⟨t0,t1⟩;go_wp2;exact⟨rfl,rfl,rfl⟩)))
  refine ew rfl rfl ?_;go_wp2_with fail;refine(wW _ q _ _ ((HI.out _ H.out.bytes).below (an _ _).drew) (by omega) (by omega)).mono ?_;rintro e w1 ⟨rfl,hb⟩;have NJ:Below w.heap.size w w1:=fY hb;rw [NO];have Ob:=H.out.1.below NJ H.out.1.lt;have d0':w1.cell? ⟨R,0,none⟩=some (.slice a L.length cap):=Ob.cell 0;have d1':w1.cell? ⟨R,1,none⟩=some (.int .i64 pos):=Ob.cell 1;have d2':w1.cell? ⟨R,2,none⟩=some (.int .i64 0):=Ob.cell 2;have z1':=Ob.free 1;have z2':=Ob.free 2;have h1:ug w0 w1 R a cap L ⟨pos,0⟩:=⟨Ob,H.out.2.1,H.out.2.2.1.trans (NJ.mono H.out.2.2.1.size),H.out.2.2.2⟩;have H1:=V h1;have HB1:=V NJ;clear h1 Ob hb NJ d0 d1 d2 z1 z2 Qr NO;go_wp2_with fail;refine⟨⟨d0',d1'⟩,?_⟩;iterate 7 (first | (apply sk rfl rfl;simp only [pt]) | (apply eo rfl rfl rfl;·(rintro w' ⟨t0,t1⟩;go_wp2;exact⟨rfl,rfl,rfl⟩)))
  refine eW ?_;refine aA ?_;go_wp2;go_ret;have hk:=(ep.et (S:=fun k=>k=R) HB1.out).trans ((fC w1 R 2 (.int .i64 0)).trans (fC _ R 1 (.int .i64 ((pos:Int)+k))) (fun _ h=> .inl h)) (fun _ h=> .inl h);have h2:=H1.out.set (s':=⟨pos,0⟩) (i:=2) (v:= .int .i64 0) rfl H1.out.2.2.2.2;exact⟨by rw [HB.out];rfl,by rw [HB.out];exact h2.set rfl (by have:=HO.out;rw [HB.out]at this;exact this),hk⟩
theorem xD (w0 w:World) (R:Nat) (a:Option Addr) (cap:Nat) (L:List UInt8) (s:IR) (h:ug w0 w R a cap L s) (he:s.err=0) (bits:Int) (Nx:1 <=bits) (No:bits <=64):
  Calls prog 318 #[.pointer (some ⟨R,0,none⟩), .int .i64 bits] w (A5 w0 w R a cap L (.int .i64 (s.rI L bits).1) (s.rI L bits).2):=by
 have N3:=IR.LB (bits:=bits) h.2.2.2.2;obtain⟨pos,err⟩:=s;have N2:=h.1;have Nt:=h.2.2.2.2;obtain⟨o1,o2,o3⟩:=Nt;simp only at o1 o2 o3;obtain⟨_,_,Qr,Sx,OS,-⟩:=h.2.1;injection Qr with e1 e2 e3;subst e1 e3;clear e2;unfold maxLen at OS;have d0:=N2.cell 0;have d1:=N2.cell 1;have d2:=N2.cell 2;have z1:=N2.free 1;have z2:=N2.free 2;have H:=V h;clear h N2;simp only at d1 d2;simp only at he;subst he;obtain⟨a2,Nr,Qr,hi⟩:=AB a cap o1;obtain⟨n,k,er,NO⟩:∃n k er,jD bits (L.drop pos)=(n,k,er):=⟨_,_,_,rfl⟩;have hk:pos+k <=L.length:=by have:=Eh bits (L.drop pos);rw [NO,bu]at this;simp only at this;omega
 have HB:=V (show IR.rI L bits ⟨pos,0⟩=(n,⟨pos+k,er⟩)by unfold IR.rI;simp only [NO]);obtain⟨q,hq⟩:∃q,L.drop pos=q:=⟨_,rfl⟩;rw [hq]at Qr hi NO;have HI:=V hi;have HO:=V N3;clear hi N3 hq;go_enter func318,ntmps318;go_wp2_with fail;refine eB (fun w'=>w'.cell? ⟨R,0,none⟩=some (.slice a L.length cap)/\w'.cell? ⟨R,1,none⟩=some (.int .i64 pos)) (up 0 10 ((10,false)::up 11 7 [])) (by kernel_rfl) (by kernel_rfl) ⟨d0,d1⟩ ?_;iterate 10 (first | (apply sk rfl rfl;simp only [pt]) | (apply eo rfl rfl rfl;·(rintro w' ⟨t0,t1⟩;go_wp2;exact⟨rfl,rfl,rfl⟩)))
 refine ew rfl rfl ?_;go_wp2_with fail;refine(Ed _ q _ _ ((HI.out _ H.out.bytes).below (an _ _).drew) (by omega) (by omega)).mono ?_;rintro e w1 ⟨rfl,hb⟩;have NJ:Below w.heap.size w w1:=fY hb;rw [NO];have Ob:=H.out.1.below NJ H.out.1.lt;have d0':w1.cell? ⟨R,0,none⟩=some (.slice a L.length cap):=Ob.cell 0;have d1':w1.cell? ⟨R,1,none⟩=some (.int .i64 pos):=Ob.cell 1;have d2':w1.cell? ⟨R,2,none⟩=some (.int .i64 0):=Ob.cell 2;have z1':=Ob.free 1;have z2':=Ob.free 2;have h1:ug w0 w1 R a cap L ⟨pos,0⟩:=⟨Ob,H.out.2.1,H.out.2.2.1.trans (NJ.mono H.out.2.2.1.size),H.out.2.2.2⟩;have H1:=V h1;have HB1:=V NJ;clear h1 Ob hb NJ d0 d1 d2 z1 z2 Qr NO;go_wp2_with fail;refine⟨⟨d0',d1'⟩,?_⟩;iterate 7 (first | (apply sk rfl rfl;simp only [pt]) | (apply eo rfl rfl rfl;·(rintro w' ⟨t0,t1⟩;go_wp2;exact⟨rfl,rfl,rfl⟩)))
 refine eW ?_;refine aA ?_;go_wp2;go_ret;have hk:=(ep.et (S:=fun k=>k=R) HB1.out).trans ((fC w1 R 1 (.int .i64 ((pos:Int)+k))).trans (fC _ R 2 (.int .i64 er)) (fun _ h=> .inl h)) (fun _ h=> .inl h);have hO:IR.ok L ⟨pos+k,er⟩:=by have:=HO.out;rw [HB.out]at this;exact this
 have h2:=H1.out.set (s':=⟨pos+k,0⟩) (i:=1) (v:= .int .i64 ((pos:Int)+k)) rfl ⟨hO.1,by simp,by simp⟩;exact⟨by rw [HB.out];rfl,by rw [HB.out];exact h2.set rfl hO,hk⟩
theorem I9 (w:World) (l:List Int) (t:TypeId) (hl:l.length <=1000):eA 1 fk (w.alloc (.cells (l.map fun n=>Value.int .i64 n).toArray t)) (.slice (some ⟨w.heap.size,0,none⟩) l.length l.length) l:=by
 refine⟨_,l.length,rfl,ag _,by simp only [maxLen];omega,fun i y hy=>⟨w.heap.size,0,rfl,by simp,fun j u hu=>?_⟩⟩;rw [bL]
 match j,hu with
 | 0,hu=>
  simp [fk]at hu;simp [hy,hu]
 | j+1,hu=>simp [fk]at hu
theorem BW (v:Value) (l:List Int) (x:Int) (w:World) (hl:eA 1 fk w v l):
  Calls prog 320 #[v, .int .i64 x] w (kp (fun n=>x==n) l w):=by
 have HI:=V hl;obtain⟨a,cap,rfl,h1,h2,_⟩:=id hl;unfold maxLen at h2;clear hl;go_enter func320,ntmps320;go_wp2_with fail;refine eR (fun a' w'=>∃(k:Nat),a'=fr (.slice a l.length cap:: .int .i64 x::gs a' 2 5 (.int .i64 l.length:: .int .i64 k::gs a' 9 10 []))/\qP (fun n=>x==n) l w w' k) (fun a' _=>(l.length - (intOf (a'.tmps.getD 8 undef)).toNat)) ?_ ?_
 ·exact⟨0,rfl,by omega,fun i hi=>by omega,an _ _⟩
 ·skip
  rintro R a' w1 ⟨k,Nm,hJ⟩ HR;dsimp only [fr,gs]at Nm;generalize slot a'=f at Nm;subst Nm;obtain⟨hk,hm,hb⟩:=hJ;have N1:=V hm;clear hm;by_cases N8:k < l.length;rotate_left
  ·obtain rfl:k=l.length:=by omega
   go_wp2;go_ret;exact⟨by rw [ia N1.out];rfl,hb⟩
  obtain⟨e,he⟩:∃e,l[k]?=some e:=⟨_,aq N8⟩;obtain⟨a',NK,hv,_,_,Nk⟩:=HI.out.below (hb.mono (ag _));injection hv with e1 e2 e3;subst e1 e3;obtain⟨b,off,rfl,Nu,hc⟩:=Nk k e he;have c0:=hc 0 _ rfl;rw [aJ,aW]at c0;have HE:=V he;clear Nk e2 he hc;by_cases q:x=e
  ·have f:=eV q
   have HQ:=V (show(x==e)=true from f);clear q;go_wp2;go_ret;exact⟨by rw [iF HE.out HQ.out N1.out];rfl,hb⟩
  ·have f:=eh q
   have HQ:=V (show(x==e)=false from f);clear q;go_wp2;refine HR.out _ _ ⟨k+1,rfl,by omega,?_,hb⟩ ?_
   ·intro i hi d hd
    rcases bz i k with h | h
    ·exact N1.out i h d hd
    ·obtain rfl:i=k:=by omega
     rw [HE.out]at hd;injection hd with hd;rw [<- hd];exact HQ.out
   ·simp [intOf]
    omega
theorem Ds (w0 w:World) (R:Nat) (a:Option Addr) (cap:Nat) (L:List UInt8) (s:IR) (h:ug w0 w R a cap L s):
  Calls prog 315 #[.pointer (some ⟨R,0,none⟩)] w (A5 w0 w R a cap L (.int .i64 (s.kind L).1) (s.kind L).2):=by
 have N3:=IR.Kt h.2.2.2.2;have HH:=V h;obtain⟨s1,OC⟩:∃s1,(s.byte L).2=s1:=⟨_,rfl⟩;obtain⟨v1,Qb⟩:∃v1,(s.byte L).1=v1:=⟨_,rfl⟩;have HO:=V N3;have H1:=V OC;have V1:=V Qb;have HK:=V (show s.kind L=if v1=64 then(0,s1)else if v1=127 then(1,s1)else if v1=126 then(2,s1)else(0,if s1.err=0 then⟨s1.pos,1⟩else s1)by unfold IR.kind;rw [OC,Qb]);clear h N3 OC Qb;go_enter func315,ntmps315;go_wp2_with fail;refine(rz w0 _ R a cap L s HH.out).mono ?_;rintro e w1 ⟨rfl,h1,hk⟩;rw [V1.out];rw [H1.out]at h1;have HI1:=V h1;have HK1:=V hk;clear h1 hk;go_wp2_with fail;refine(BW _ [64,127,126] v1 _ (I9 w1 [64,127,126] _ (by simp))).mono ?_;rintro e w2 ⟨rfl,hb⟩;have NJ:Below w1.heap.size w1 w2:=((an _ _).alloc (ag _) _).trans (hb.mono (by simp));have h2:ug w0 w2 R a cap L s1:=HI1.out.keeps (ep.et (S:=fun _=>False) NJ) (fun h=>h) (fun _ h=>h.elim);have z2:=h2.1.free 2;have d2:w2.cell? ⟨R,2,none⟩=some (.int .i64 s1.err):=h2.1.cell 2;have P8:=V h2;have OX:=V (HK1.out.trans (ep.et (S:=fun k=>k=R) NJ) (fun _ h=> .inl h));clear h2 hb NJ;by_cases q0:v1=64
 ·have hx:uc (fun n=>((v1:Nat):Int)==n) [64,127,126]=0:=by rw [q0];rfl
  replace HK:=V (show s.kind L=(0,s1)by rw [HK.out,aE q0]);rw [hx];clear hx q0;go_wp2;go_ret;exact⟨by rw [HK.out];rfl,by rw [HK.out];exact P8.out,OX.out⟩
 by_cases q1:v1=127
 ·have hx:uc (fun n=>((v1:Nat):Int)==n) [64,127,126]=1:=by rw [q1];rfl
  replace HK:=V (show s.kind L=(1,s1)by rw [HK.out,az q0,aE q1]);rw [hx];clear hx q0 q1;go_wp2;go_ret;exact⟨by rw [HK.out];rfl,by rw [HK.out];exact P8.out,OX.out⟩
 by_cases q2:v1=126
 ·have hx:uc (fun n=>((v1:Nat):Int)==n) [64,127,126]=2:=by rw [q2];rfl
  replace HK:=V (show s.kind L=(2,s1)by rw [HK.out,az q0,az q1,aE q2]);rw [hx];clear hx q0 q1 q2;go_wp2;go_ret;exact⟨by rw [HK.out];rfl,by rw [HK.out];exact P8.out,OX.out⟩
 have hx:uc (fun n=>((v1:Nat):Int)==n) [64,127,126]= -1:=by
  have h0:(((v1:Nat):Int)==64)=false:=eh (by omega);have h1:(((v1:Nat):Int)==127)=false:=eh (by omega);have h2:(((v1:Nat):Int)==126)=false:=eh (by omega);simp [uc,List.findIdx?_cons,h0,h1,h2]
 replace HK:=V (show s.kind L=(0,if s1.err=0 then⟨s1.pos,1⟩else s1)by rw [HK.out,az q0,az q1,az q2]);rw [hx];clear hx q0 q1 q2;by_cases q:s1.err=0
 ·have f:=eV q
  replace HK:=V (show s.kind L=(0,⟨s1.pos,1⟩)by rw [HK.out,aE q]);clear q;go_wp2;go_ret;exact⟨by rw [HK.out];rfl,by rw [HK.out];exact P8.out.set rfl (by have:=HO.out;rw [HK.out]at this;exact this),OX.out.trans (fC _ R 2 _) (fun _ h=> .inl h)⟩
 ·have f:=eh q
  replace HK:=V (show s.kind L=(0,s1)by rw [HK.out,az q]);clear q;go_wp2;go_ret;exact⟨by rw [HK.out];rfl,by rw [HK.out];exact P8.out,OX.out⟩

section
inductive Ord where
 | nil:Ord
 | cons (i:Nat) (b:Bool) (rest:Ord):Ord
 | fork (i j:Nat) (ri rj:Ord):Ord
def Ord.depth:Ord ->Nat
 | .nil=>0
 | .cons _ _ r=>r.depth+1
 | .fork _ _ a b=>max a.depth b.depth+1
def ord:List (Nat × Bool) ->Ord ->Ord
 | [],r=>r
 | (i,b)::l,r=> .cons i b (ord l r)
def kU (P:Program) (ops:List Oper) (Q:Exit ->Act ->World ->Prop) (S:World ->Prop):Ord ->Act ->World ->Prop
 | .nil,a,w=>Q .normal a w
 | Ord.cons i true rest,a,w=>∃o,nth ops i=some o/\
   ((kI ops o.guard a=true/\∃d,o.dst=some d/\d < a.tmps.size/\∃a',(∀w',S w' ->wpList P #[] (D6 a' w') [bare o] a w')/\kU P ops Q S rest a' w)\/
    (kI ops o.guard a=false/\kU P ops Q S rest (a.put o.dst undef) w))
 | Ord.cons i false rest,a,w=>∃o,nth ops i=some o/\
   ((kI ops o.guard a=true/\wpList P #[] (og Q S (kU P ops Q S rest)) [bare o] a w)\/
    (kI ops o.guard a=false/\kU P ops Q S rest (a.put o.dst undef) w))
 | .fork i j ri rj,a,w=>(∃o,nth ops i=some o/\
   ((kI ops o.guard a=true/\wpList P #[] (og Q S (kU P ops Q S ri)) [bare o] a w)\/
    (kI ops o.guard a=false/\kU P ops Q S ri (a.put o.dst undef) w)))/\(∃o,nth ops j=some o/\
   ((kI ops o.guard a=true/\wpList P #[] (og Q S (kU P ops Q S rj)) [bare o] a w)\/
    (kI ops o.guard a=false/\kU P ops Q S rj (a.put o.dst undef) w)))
def rf (ops:Array Oper):Ord ->Array Bool ->Bool
 | .nil,listed=>(Region.ready .any ops listed).isEmpty
 | Ord.cons i true rest,listed=>(ops[i]?.any fun o=>isVal o.op)&&(Region.ready .any ops listed).contains i&&Region.free .any ops listed i&&rf ops rest (listed.setIfInBounds i true)
 | Ord.cons i false rest,listed=>(Region.ready .any ops listed==[i])&&rf ops rest (listed.setIfInBounds i true)
 | .fork i j ri rj,listed=>(Region.ready .any ops listed==[i,j])&&rf ops ri (listed.setIfInBounds i true)&&rf ops rj (listed.setIfInBounds j true)
theorem kL {P:Program} {ops:Array Oper} {Q:Exit ->Act ->World ->Prop} {S:World ->Prop} {j:Nat} {K K':Act ->World ->Prop} {a:Act} {w:World} (hS:S w) (hK:∀a w,S w ->K a w ->K' a w)
  (h:∃o,nth ops.toList j=some o/\((kI ops.toList o.guard a=true/\wpList P #[] (og Q S K) [bare o] a w)\/(kI ops.toList o.guard a=false/\K (a.put o.dst undef) w))):
  wpOp P ops Q j (fun a' w'=>S w'/\K' a' w') a w:=by
 obtain⟨o,ho,h⟩:=h;rw [n4,cd]at ho;unfold wpOp;simp only [ho];rw [lD];rcases h with⟨hg,hw⟩ | ⟨hg,hk⟩
 ·rw [aE hg]
  have Oz:∀a' w',og Q S K .normal a' w' ->S w'/\K' a' w':=fun a' w' h=>⟨h.1,hK _ _ h.1 h.2⟩;have Qw:LetsOut (og Q S K) ->LetsOut Q:=fun⟨a,w,h⟩=>⟨a,w,h⟩;rcases mf hw with h1 | ⟨h1,h2⟩
  ·left
   unfold Oper.wp at h1⊢;rw [iL]at h1;generalize(execOp a.eval o).run P w=r at*;cases r with
   | ok n w'=>
    cases n <;>simp only [Oper.upon]at h1⊢
    case value=>exact Oz _ _ h1
    case skip=>exact Oz _ _ h1
    case defer=>exact Oz _ _ h1
    case enter=>
     refine bZ h1 fun e w'' he=>?_;cases e with
     | returned v=>exact Oz _ _ he
     | panicked c=>exact he.elim
     | outgrown=>exact Qw he
    case row=>exact Rows.mono h1 fun v w'' he=>Oz _ _ he
   | halt x w'=>
    cases x <;>simp only [Oper.upon]at h1⊢
    case panic=>exact h1.elim
  ·exact .inr ⟨h1,Qw h2⟩
 ·rw [az (by rw [hg];simp)]
  exact⟨hS,hK _ _ hS hk⟩
theorem lZ {P:Program} {ops:Array Oper} {Q:Exit ->Act ->World ->Prop} {S:World ->Prop} (hQ:∀c a w,¬ Q (.panic c) a w) (hs:Region.noSelect ops=true):
  ∀(l:Ord) (fuel:Nat) (listed:Array Bool) (a:Act) (w:World),l.depth <=fuel ->rf ops l listed=true ->S w ->
   kU P ops.toList Q S l a w ->wpAnyH P .any ops Q S fuel listed a w
 | .nil,fuel,listed,a,w,_,Nt,_,h=>by
  simp only [rf,List.isEmpty_iff]at Nt;exact wpAnyH_done Nt h fuel
 | Ord.cons i true rest,0,_,_,_,hl,_,_,_=>by simp [Ord.depth]at hl
 | Ord.cons i false rest,0,_,_,_,hl,_,_,_=>by simp [Ord.depth]at hl
 | Ord.cons i true rest,fuel+1,listed,a,w,hl,Nt,hS,h=>by
  simp only [rf,bj]at Nt;obtain⟨⟨⟨hv,hr⟩,hf⟩,NW⟩:=Nt;simp only [Ord.depth]at hl;obtain⟨o,ho,h⟩:=h;rw [n4,cd]at ho;rw [ho]at hv;simp only [dO]at hv;rcases h with⟨hg,d,hd,hds,a',hp,hk⟩ | ⟨hg,hk⟩
  ·refine wpAnyH_take (v:=a'.tmps.getD d undef) ho hs hf hr (fun c a w h=>(hQ _ _ _ h).elim) (.inl ⟨by rw [lD];exact hg,fun w' hw'=>?_⟩) hS ?_
   ·rcases mf (hp w' hw')with h1 | ⟨_,h2⟩
    ·unfold Oper.wp at h1
     rw [iL]at h1;rcases lU (P:=P) (ρ:=a.eval) hv w' with⟨v,w2,Nz⟩ | ⟨x,w2,Nz⟩
     ·rw [Nz]at h1⊢
      obtain⟨_,h3,h4⟩:=h1;subst h4;subst h3;have:(bare o).dst=some d:=hd;rw [this];simp [Act.put,hds]
     ·rw [Nz]at h1
      cases x <;>simp only [Oper.upon]at h1
      case panic=>exact absurd h1.1 (by simp)
    ·obtain⟨_,_,h3,_⟩:=h2
     exact absurd h3 (by simp)
   ·have ha:a.put o.dst (a'.tmps.getD d undef)=a':=by
     rcases mf (hp w hS)with h1 | ⟨_,h2⟩
     ·unfold Oper.wp at h1
      rw [iL]at h1;rcases lU (P:=P) (ρ:=a.eval) hv w with⟨v,w2,Nz⟩ | ⟨x,w2,Nz⟩
      ·rw [Nz]at h1
       obtain⟨_,h3,h4⟩:=h1;have hd':(bare o).dst=some d:=hd;rw [<- h3,hd',hd];simp [Act.put,hds]
      ·rw [Nz]at h1
       cases x <;>simp only [Oper.upon]at h1
       case panic=>exact absurd h1.1 (by simp)
     ·obtain⟨_,_,h3,_⟩:=h2
      exact absurd h3 (by simp)
    rw [ha];exact lZ hQ hs rest fuel _ _ _ (by omega) NW hS hk
  ·refine wpAnyH_take (v:=undef) ho hs hf hr (fun c a w h=>(hQ _ _ _ h).elim) (.inr ⟨by rw [lD];exact hg,rfl⟩) hS ?_
   exact lZ hQ hs rest fuel _ _ _ (by omega) NW hS hk
 | Ord.cons i false rest,fuel+1,listed,a,w,hl,Nt,hS,h=>by
  simp only [rf,bj,dv]at Nt;obtain⟨hr,NW⟩:=Nt;simp only [Ord.depth]at hl;obtain⟨o,ho,h⟩:=h;rw [n4,cd]at ho;refine wpAnyH_all hr (by simp) fun j hj=>?_;obtain rfl:j=i:=by simpa using hj
  unfold wpOp;simp only [ho];rw [lD];rcases h with⟨hg,hw⟩ | ⟨hg,hk⟩
  ·rw [aE hg]
   have Oz:∀a' w',og Q S (kU P ops.toList Q S rest) .normal a' w' ->S w'/\wpAnyH P .any ops Q S fuel (listed.setIfInBounds j true) a' w':=
    fun a' w' h=>⟨h.1,lZ hQ hs rest fuel _ _ _ (by omega) NW h.1 h.2⟩
   have Qw:LetsOut (og Q S (kU P ops.toList Q S rest)) ->LetsOut Q:=fun⟨a,w,h⟩=>⟨a,w,h⟩;rcases mf hw with h1 | ⟨h1,h2⟩
   ·left
    unfold Oper.wp at h1⊢;rw [iL]at h1;generalize(execOp a.eval o).run P w=r at*;cases r with
    | ok n w'=>
     cases n <;>simp only [Oper.upon]at h1⊢
     case value=>exact Oz _ _ h1
     case skip=>exact Oz _ _ h1
     case defer=>exact Oz _ _ h1
     case enter=>
      refine bZ h1 fun e w'' he=>?_;cases e with
      | returned v=>exact Oz _ _ he
      | panicked c=>exact he.elim
      | outgrown=>exact Qw he
     case row=>exact Rows.mono h1 fun v w'' he=>Oz _ _ he
    | halt x w'=>
     cases x <;>simp only [Oper.upon]at h1⊢
     case panic=>exact h1.elim
   ·exact .inr ⟨h1,Qw h2⟩
  ·rw [az (by rw [hg];simp)]
   exact⟨hS,lZ hQ hs rest fuel _ _ _ (by omega) NW hS hk⟩
 | .fork i j ri rj,0,_,_,_,hl,_,_,_=>by simp [Ord.depth]at hl
 | .fork i j ri rj,fuel+1,listed,a,w,hl,Nt,hS,h=>by
  simp only [rf,bj,dv]at Nt;obtain⟨⟨hr,hok1⟩,hok2⟩:=Nt;simp only [Ord.depth]at hl;refine wpAnyH_all hr (by simp) fun k hk=>?_;rcases(by simpa using hk:k=i\/k=j)with rfl | rfl
  ·exact kL hS (fun a w hS h=>lZ hQ hs ri fuel _ a w (by omega) hok1 hS h) h.1
  ·exact kL hS (fun a w hS h=>lZ hQ hs rj fuel _ a w (by omega) hok2 hS h) h.2
theorem mo {P:Program} {ops:List Oper} {Q:Exit ->Act ->World ->Prop} {id:Nat} {a:Act} {w:World} (S:World ->Prop) (l:Ord) (hm:P.follows .mixedOrders=true)
  (Nt:(rf ops.toArray l (Array.replicate ops.length false)&&Region.noSelect ops.toArray&&decide (l.depth <=ops.length))=true) (hS:S w.drew)
  (h:kU P ops (NoPanic Q) S l a w.drew):(Code.region id ops.toArray true).wp P Q a w:=by
 simp only [bj,cR]at Nt;obtain⟨⟨Nt,hn⟩,hl⟩:=Nt;refine dG (wp_region_held (S:=S) hm ?_);refine lZ (S:=S) (fun c a w h=>h) hn l _ _ a _ ?_ ?_ hS ?_
 ·simpa using hl
 ·simpa using Nt
 ·simpa using h
section
variable {P:Program} {ops:List Oper} {Q:Exit ->Act ->World ->Prop} {S:World ->Prop} {i:Nat} {rest:Ord} {a:Act} {w:World} {d:Tmp} {op:Op} {t:TypeId} {p:String} {af:Array Edge} {g:Option (Nat × Bool)}
theorem iR (hi:nth ops i=some ⟨some d,op,t,p,af,g⟩) (hg:kI ops g a=true) (hd:Nat.ble (d+1) a.tmps.size=true) {a':Act} (hp:∀w',S w' ->wpList P #[] (D6 a' w') [⟨some d,op,t,p,#[],none⟩] a w')
  (h:kU P ops Q S rest a' w):kU P ops Q S (.cons i true rest) a w:=
 ⟨_,hi, .inl ⟨hg,d,rfl,Nat.le_of_ble_eq_true hd,a',hp,h⟩⟩
theorem fW {dst:Option Tmp} (hi:nth ops i=some ⟨dst,op,t,p,af,g⟩) (hg:kI ops g a=true) (h:wpList P #[] (og Q S (kU P ops Q S rest)) [⟨dst,op,t,p,#[],none⟩] a w):kU P ops Q S (.cons i false rest) a w:=
 ⟨_,hi, .inl ⟨hg,h⟩⟩
theorem nc (h:Q .normal a w):kU P ops Q S .nil a w:=h
theorem pL {i j:Nat} {ri rj:Ord} {oi oj:Oper} (hi:nth ops i=some oi) (hj:nth ops j=some oj) (gi:kI ops oi.guard a=true) (gj:kI ops oj.guard a=true)
  (h1:wpList P #[] (og Q S (kU P ops Q S ri)) [⟨oi.dst,oi.op,oi.type,oi.pos,#[],none⟩] a w) (h2:wpList P #[] (og Q S (kU P ops Q S rj)) [⟨oj.dst,oj.op,oj.type,oj.pos,#[],none⟩] a w):
  kU P ops Q S (.fork i j ri rj) a w:=
 ⟨⟨_,hi, .inl ⟨gi,h1⟩⟩,⟨_,hj, .inl ⟨gj,h2⟩⟩⟩
end
end
end Go.Proofs.YtjmeglibedbljaaGreatDoor
