import Derived.Test.YthbjdhjppbcneaaGreatDoorStackJ2
namespace Go.Proofs.YthbjdhjppbcneaaGreatDoor
set_option maxRecDepth 100000
set_option maxHeartbeats 20000000
open Go.RowKit Tryz
open Lib renaming hid->V
set_option linter.all false
def oZ {α:Type} (la lb:List α) (w:World) (e:Ending) (w':World):Prop:=∃r:Bool,e= .returned (.bool r)/\(r=true↔la=lb)/\Below w.heap.size w w'
def yG {α:Type} (la lb:List α) (w w':World) (k:Nat):Prop:=k <=la.length/\la.take k=lb.take k/\Below w.heap.size w w'
def sG (b off b2 KM k:Nat) (e d:fb) (w:World):Prop:=
 (w.cell? ⟨b,off+k*2,none⟩=some (.int .i64 e.kind)/\w.cell? ⟨b,off+k*2+1,none⟩=some (.int .i64 e.n))/\
 w.cell? ⟨b2,KM+k*2,none⟩=some (.int .i64 d.kind)/\w.cell? ⟨b2,KM+k*2+1,none⟩=some (.int .i64 d.n)
def rb (b off b2 KM k:Nat) (e d:kK) (w:World):Prop:=
 (w.cell? ⟨b,off+k*2,none⟩=some (.int .i64 e.pos)/\w.cell? ⟨b,off+k*2+1,none⟩=some (.int .i64 e.eJ))/\
 w.cell? ⟨b2,KM+k*2,none⟩=some (.int .i64 d.pos)/\w.cell? ⟨b2,KM+k*2+1,none⟩=some (.int .i64 d.eJ)
theorem sb (va vb:Value) (la lb:List fb) (w:World) (ha:ee 2 gg w va la) (hb:ee 2 gg w vb lb):Calls prog 129 #[va,vb] w (oZ la lb w):=by
 have HA:=V ha;have HB:=V hb;obtain⟨a,cap,rfl,h1,h2,_⟩:=ha;obtain⟨a2,Kn,rfl,h3,h4,_⟩:=hb;unfold maxLen at h2 h4;by_cases hlen:la.length=lb.length;rotate_left
 ·have f1:(((la.length:Int)) !=((lb.length:Int)))=true:=fc (by omega)
  have HL:=V hlen;clear hlen;go_enter func129,ntmps129;go_wp2_with fail;go_ret;exact⟨false,rfl,⟨fun h=>(by cases h),fun h=>absurd (cW List.length h) HL.out⟩,an _ _⟩
 rw [<- hlen]at h3⊢;have HL:=V hlen;clear hlen;go_enter func129,ntmps129;go_wp2_with fail;refine ez (fun a' w'=>∃(k:Nat),a'=fr (.slice a la.length cap:: .slice a2 la.length Kn::gs a' 2 10 (.int .i64 la.length:: .int .i64 k::gs a' 14 12 []))/\yG la lb w w' k) (fun a' _=>(la.length - (intOf (a'.tmps.getD 13 undef)).toNat)) ?_ ?_
 ·exact⟨0,rfl,by omega,rfl,an _ _⟩
 ·skip
  rintro R a' w1 ⟨k,Kk,hJ⟩ HR;dsimp only [fr,gs]at Kk;generalize slot a'=f at Kk;subst Kk;obtain⟨hk,NV,hb⟩:=hJ;have HT:=V NV;clear NV;by_cases Lg:k < la.length;rotate_left
  ·obtain rfl:k=la.length:=by omega
   go_wp2_with fail;go_ret;refine⟨true,rfl,⟨fun _=>?_,fun _=>rfl⟩,hb⟩;have:=HT.out;rw [aU,HL.out,aU]at this;exact this
  obtain⟨e,he⟩:∃e,la[k]?=some e:=⟨_,aq Lg⟩;obtain⟨d,hd⟩:∃d,lb[k]?=some d:=⟨_,aq (by have:=HL.out;omega)⟩;obtain⟨a',KE,hv,_,_,Kh⟩:=HA.out.below (hb.mono (ag _));obtain⟨a2',cap2',LW,_,_,Lw⟩:=HB.out.below (hb.mono (ag _));injection hv with e1 e2 e3;injection LW with e4 e5 e6;subst e1 e3 e4 e6;obtain⟨b,off,rfl,Kq,hc⟩:=Kh k e he;obtain⟨b2,KM,rfl,L4,La⟩:=Lw k d hd;have c0:=hc 0 _ rfl;have c1:=hc 1 _ rfl;have c2:=La 0 _ rfl;have c3:=La 1 _ rfl;rw [aK]at c0 c2;have HE:=V he;have HD:=V hd;have cc:sG b off b2 KM k e d w1.drew:=⟨⟨c0,c1⟩,c2,c3⟩;have CC:=V cc;clear Kh Lw e2 e5 he hd hc La c0 c1 c2 c3 cc;by_cases q1:e.kind=d.kind
  ·have f1:=eF q1
   have Q1:=V q1;clear q1;by_cases q2:e.n=d.n
   ·have f2:=eF q2
    have Q2:=V q2;clear q2;go_wp2_with fail;refine ed (sG b off b2 KM k e d) (up 0 9 []) (by kernel_rfl) (by kernel_rfl) CC.out ?_;iterate 8 (first | (apply sk rfl rfl;simp only [pt]) | (apply dT rfl rfl rfl;·(rintro w' ⟨⟨t0,t1⟩,t2,t3⟩;go_wp2;exact⟨rfl,rfl,rfl⟩)))
    iterate 1 (first | (apply sk rfl rfl;simp only [pt]) | (apply dT rfl rfl rfl;·(rintro w' ⟨⟨t0,t1⟩,t2,t3⟩;go_wp2;exact⟨rfl,rfl,rfl⟩)))
    refine eH ?_;refine aD ?_;go_wp2_with fail;refine HR.out _ _ ⟨k+1,rfl,by omega,?_,hb.drew⟩ ?_
    ·rw [aQ,aQ,HT.out,HE.out,HD.out]
     obtain⟨x0,x1⟩:=e;obtain⟨y0,y1⟩:=d;have g0:=Q1.out;have g1:=Q2.out;simp only at g0 g1;rw [g0,g1]
    ·simp [intOf]
     omega
   ·have f2:=dQ q2
    have HX:=V (show e.n≠d.n from q2);clear q2;go_wp2_with fail;refine ed (sG b off b2 KM k e d) (up 0 9 []) (by kernel_rfl) (by kernel_rfl) CC.out ?_;iterate 8 (first | (apply sk rfl rfl;simp only [pt]) | (apply dT rfl rfl rfl;·(rintro w' ⟨⟨t0,t1⟩,t2,t3⟩;go_wp2;exact⟨rfl,rfl,rfl⟩)))
    iterate 1 (first | (apply sk rfl rfl;simp only [pt]) | (apply dT rfl rfl rfl;·(rintro w' ⟨⟨t0,t1⟩,t2,t3⟩;go_wp2;exact⟨rfl,rfl,rfl⟩)))
    refine eH ?_;refine aD ?_;go_wp2_with fail;go_ret;refine⟨false,rfl,⟨fun h=>(by cases h),fun h=>?_⟩,hb.drew⟩;have h1:=HE.out;rw [h,HD.out]at h1;injection h1 with h1;exact(HX.out (by rw [h1])).elim
  ·have f1:=dQ q1
   have HX:=V (show e.kind≠d.kind from q1);clear q1;go_wp2_with fail;refine ed (sG b off b2 KM k e d) (up 0 9 []) (by kernel_rfl) (by kernel_rfl) CC.out ?_;iterate 8 (first | (apply sk rfl rfl;simp only [pt]) | (apply dT rfl rfl rfl;·(rintro w' ⟨⟨t0,t1⟩,t2,t3⟩;go_wp2;exact⟨rfl,rfl,rfl⟩)))
   iterate 1 (first | (apply sk rfl rfl;simp only [pt]) | (apply dT rfl rfl rfl;·(rintro w' ⟨⟨t0,t1⟩,t2,t3⟩;go_wp2;exact⟨rfl,rfl,rfl⟩)))
   refine eH ?_;refine aD ?_;go_wp2_with fail;go_ret;refine⟨false,rfl,⟨fun h=>(by cases h),fun h=>?_⟩,hb.drew⟩;have h1:=HE.out;rw [h,HD.out]at h1;injection h1 with h1;exact(HX.out (by rw [h1])).elim
theorem xj (va vb:Value) (la lb:List kK) (w:World) (ha:ee 2 kl w va la) (hb:ee 2 kl w vb lb):Calls prog 132 #[va,vb] w (oZ la lb w):=by
 have HA:=V ha;have HB:=V hb;obtain⟨a,cap,rfl,h1,h2,_⟩:=ha;obtain⟨a2,Kn,rfl,h3,h4,_⟩:=hb;unfold maxLen at h2 h4;by_cases hlen:la.length=lb.length;rotate_left
 ·have f1:(((la.length:Int)) !=((lb.length:Int)))=true:=fc (by omega)
  have HL:=V hlen;clear hlen;go_enter func132,ntmps132;go_wp2_with fail;go_ret;exact⟨false,rfl,⟨fun h=>(by cases h),fun h=>absurd (cW List.length h) HL.out⟩,an _ _⟩
 rw [<- hlen]at h3⊢;have HL:=V hlen;clear hlen;go_enter func132,ntmps132;go_wp2_with fail;refine ez (fun a' w'=>∃(k:Nat),a'=fr (.slice a la.length cap:: .slice a2 la.length Kn::gs a' 2 10 (.int .i64 la.length:: .int .i64 k::gs a' 14 12 []))/\yG la lb w w' k) (fun a' _=>(la.length - (intOf (a'.tmps.getD 13 undef)).toNat)) ?_ ?_
 ·exact⟨0,rfl,by omega,rfl,an _ _⟩
 ·skip
  rintro R a' w1 ⟨k,Kk,hJ⟩ HR;dsimp only [fr,gs]at Kk;generalize slot a'=f at Kk;subst Kk;obtain⟨hk,NV,hb⟩:=hJ;have HT:=V NV;clear NV;by_cases Lg:k < la.length;rotate_left
  ·obtain rfl:k=la.length:=by omega
   go_wp2_with fail;go_ret;refine⟨true,rfl,⟨fun _=>?_,fun _=>rfl⟩,hb⟩;have:=HT.out;rw [aU,HL.out,aU]at this;exact this
  obtain⟨e,he⟩:∃e,la[k]?=some e:=⟨_,aq Lg⟩;obtain⟨d,hd⟩:∃d,lb[k]?=some d:=⟨_,aq (by have:=HL.out;omega)⟩;obtain⟨a',KE,hv,_,_,Kh⟩:=HA.out.below (hb.mono (ag _));obtain⟨a2',cap2',LW,_,_,Lw⟩:=HB.out.below (hb.mono (ag _));injection hv with e1 e2 e3;injection LW with e4 e5 e6;subst e1 e3 e4 e6;obtain⟨b,off,rfl,Kq,hc⟩:=Kh k e he;obtain⟨b2,KM,rfl,L4,La⟩:=Lw k d hd;have c0:=hc 0 _ rfl;have c1:=hc 1 _ rfl;have c2:=La 0 _ rfl;have c3:=La 1 _ rfl;rw [aK]at c0 c2;have HE:=V he;have HD:=V hd;have cc:rb b off b2 KM k e d w1.drew:=⟨⟨c0,c1⟩,c2,c3⟩;have CC:=V cc;clear Kh Lw e2 e5 he hd hc La c0 c1 c2 c3 cc;by_cases q1:e.pos=d.pos
  ·have f1:=eF q1
   have Q1:=V q1;clear q1;by_cases q2:e.eJ=d.eJ
   ·have f2:=eF q2
    have Q2:=V q2;clear q2;go_wp2_with fail;refine ed (rb b off b2 KM k e d) (up 0 9 []) (by kernel_rfl) (by kernel_rfl) CC.out ?_;iterate 8 (first | (apply sk rfl rfl;simp only [pt]) | (apply dT rfl rfl rfl;·(rintro w' ⟨⟨t0,t1⟩,t2,t3⟩;go_wp2;exact⟨rfl,rfl,rfl⟩)))
    iterate 1 (first | (apply sk rfl rfl;simp only [pt]) | (apply dT rfl rfl rfl;·(rintro w' ⟨⟨t0,t1⟩,t2,t3⟩;go_wp2;exact⟨rfl,rfl,rfl⟩)))
    refine eH ?_;refine aD ?_;go_wp2_with fail;refine HR.out _ _ ⟨k+1,rfl,by omega,?_,hb.drew⟩ ?_
    ·rw [aQ,aQ,HT.out,HE.out,HD.out]
     obtain⟨x0,x1⟩:=e;obtain⟨y0,y1⟩:=d;have g0:=Q1.out;have g1:=Q2.out;simp only at g0 g1;rw [g0,g1]
    ·simp [intOf]
     omega
   ·have f2:=dQ q2
    have HX:=V (show e.eJ≠d.eJ from q2);clear q2;go_wp2_with fail;refine ed (rb b off b2 KM k e d) (up 0 9 []) (by kernel_rfl) (by kernel_rfl) CC.out ?_;iterate 8 (first | (apply sk rfl rfl;simp only [pt]) | (apply dT rfl rfl rfl;·(rintro w' ⟨⟨t0,t1⟩,t2,t3⟩;go_wp2;exact⟨rfl,rfl,rfl⟩)))
    iterate 1 (first | (apply sk rfl rfl;simp only [pt]) | (apply dT rfl rfl rfl;·(rintro w' ⟨⟨t0,t1⟩,t2,t3⟩;go_wp2;exact⟨rfl,rfl,rfl⟩)))
    refine eH ?_;refine aD ?_;go_wp2_with fail;go_ret;refine⟨false,rfl,⟨fun h=>(by cases h),fun h=>?_⟩,hb.drew⟩;have h1:=HE.out;rw [h,HD.out]at h1;injection h1 with h1;exact(HX.out (by rw [h1])).elim
  ·have f1:=dQ q1
   have HX:=V (show e.pos≠d.pos from q1);clear q1;go_wp2_with fail;refine ed (rb b off b2 KM k e d) (up 0 9 []) (by kernel_rfl) (by kernel_rfl) CC.out ?_;iterate 8 (first | (apply sk rfl rfl;simp only [pt]) | (apply dT rfl rfl rfl;·(rintro w' ⟨⟨t0,t1⟩,t2,t3⟩;go_wp2;exact⟨rfl,rfl,rfl⟩)))
   iterate 1 (first | (apply sk rfl rfl;simp only [pt]) | (apply dT rfl rfl rfl;·(rintro w' ⟨⟨t0,t1⟩,t2,t3⟩;go_wp2;exact⟨rfl,rfl,rfl⟩)))
   refine eH ?_;refine aD ?_;go_wp2_with fail;go_ret;refine⟨false,rfl,⟨fun h=>(by cases h),fun h=>?_⟩,hb.drew⟩;have h1:=HE.out;rw [h,HD.out]at h1;injection h1 with h1;exact(HX.out (by rw [h1])).elim
section
section
variable {α β:Type} {k:Nat} {enc:α × β ->List Value} {inner:World ->α ->β ->Prop}
def ea (k:Nat) (enc:α × β ->List Value) (inner:World ->α ->β ->Prop) (w:World) (v:Value) (l:List α):Prop:=
 ∃us:List β,us.length=l.length/\ee k enc w v (l.zip us)/\∀(i:Nat) (x:α) (u:β),l[i]?=some x ->us[i]?=some u ->inner w x u
theorem ea.below {w w':World} {v:Value} {l:List α} (h:ea k enc inner w v l) (hb:Below w.heap.size w w') (hi:∀x u,inner w x u ->inner w' x u):ea k enc inner w' v l:=by
 obtain⟨us,h1,h2,h3⟩:=h;exact⟨us,h1,h2.below hb,fun i x u hx hu=>hi x u (h3 i x u hx hu)⟩
theorem ea.nil (w:World):ea k enc inner w (.slice none 0 0) []:=⟨[],rfl,ee.nil w,by simp⟩
theorem ea.slice {w:World} {v:Value} {l:List α} (h:ea k enc inner w v l):∃a cap,v= .slice a l.length cap/\l.length <=cap/\cap <=9223372036854775807:=by
 obtain⟨us,h1,⟨a,cap,hv,h2,h3,_⟩,_⟩:=h;have:(l.zip us).length=l.length:=by rw [bI,h1,bY]
 rw [this]at hv h2;exact⟨a,cap,hv,h2,h3⟩
theorem ea.get {w:World} {a:Option Addr} {n cap:Nat} {l:List α} (h:ea k enc inner w (.slice a n cap) l) {i:Nat} {x:α} (hx:l[i]?=some x):
  ∃b off u,a=some ⟨b,off,none⟩/\b < w.heap.size/\(∀j v,(enc (x,u))[j]?=some v ->w.cell? ⟨b,off+i*k+j,none⟩=some v)/\inner w x u:=by
 obtain⟨us,h1,⟨a',KE,hv,_,_,h2⟩,h3⟩:=h;injection hv with e1 e2 e3;subst e1;obtain⟨u,hu⟩:∃u,us[i]?=some u:=⟨_,aq (by rw [h1];exact(aL.1 hx).1)⟩;obtain⟨b,off,ha,Kq,hc⟩:=h2 i (x,u) ((cK (z:=(x,u))).2 ⟨hx,hu⟩);exact⟨b,off,u,ha,Kq,hc,h3 i x u hx hu⟩
end
end
structure eK where
 op:Int
 a:Int
 b:Int
 l:List Int
deriving DecidableEq
def pJ (x:eK × Value):List Value:=[.int .i64 x.1.op, .int .i64 x.1.a, .int .i64 x.1.b,x.2]
def eK.ok (x:eK):Prop:=iQ x.op/\iQ x.a/\iQ x.b/\∀n∈x.l,iQ n
def gJ (w:World) (x:eK) (u:Value):Prop:=ee 1 eZ w u x.l/\x.ok
def gd (w:World) (v:Value) (l:List eK):Prop:=ea 4 pJ gJ w v l
theorem gJ.below {w w':World} {x:eK} {u:Value} (h:gJ w x u) (hb:Below w.heap.size w w'):gJ w' x u:=⟨h.1.below hb,h.2⟩
theorem gd.below {w w':World} {v:Value} {l:List eK} (h:gd w v l) (hb:Below w.heap.size w w'):gd w' v l:=ea.below h hb (fun _ _ h=>h.below hb)
structure gy where
 params:List Int
 results:List Int
deriving DecidableEq
def ru (x:gy × Value × Value):List Value:=[x.2.1,x.2.2]
def gy.ok (x:gy):Prop:=(∀n∈x.params,iQ n)/\∀n∈x.results,iQ n
def gG (w:World) (x:gy) (u:Value × Value):Prop:=(ee 1 eZ w u.1 x.params/\ee 1 eZ w u.2 x.results)/\x.ok
def sH (w:World) (v:Value) (l:List gy):Prop:=ea 2 ru gG w v l
theorem gG.below {w w':World} {x:gy} {u:Value × Value} (h:gG w x u) (hb:Below w.heap.size w w'):gG w' x u:=⟨⟨h.1.1.below hb,h.1.2.below hb⟩,h.2⟩
theorem sH.below {w w':World} {v:Value} {l:List gy} (h:sH w v l) (hb:Below w.heap.size w w'):sH w' v l:=ea.below h hb (fun _ _ h=>h.below hb)
structure jd where
 mod:ByteArray
 name:ByteArray
 type:Int
deriving DecidableEq
def sz (x:jd):List Value:=[.string x.mod, .string x.name, .int .i64 x.type]
structure fL where
 has:Bool
 min:Int
 max:Int
deriving DecidableEq
def fL.ok (x:fL):Prop:=iQ x.min/\iQ x.max
structure jb where
 isVar:Bool
 init:fb
deriving DecidableEq
def sC (x:jb):List Value:=[.bool x.isVar, .int .i64 x.init.kind, .int .i64 x.init.n]
structure iB where
 name:ByteArray
 func:Int
deriving DecidableEq
def qS (x:iB):List Value:=[.string x.name, .int .i64 x.func]
structure iO where
 off:Int
 funcs:List Int
deriving DecidableEq
def tF (x:iO × Value):List Value:=[.int .i64 x.1.off,x.2]
def iO.ok (x:iO):Prop:=iQ x.off/\∀n∈x.funcs,iQ n
def gS (w:World) (x:iO) (u:Value):Prop:=ee 1 eZ w u x.funcs/\x.ok
theorem gS.below {w w':World} {x:iO} {u:Value} (h:gS w x u) (hb:Below w.heap.size w w'):gS w' x u:=⟨h.1.below hb,h.2⟩
structure gN where
 locals:List Int
 body:List eK
deriving DecidableEq
def rV (x:gN × Value × Value):List Value:=[x.2.1,x.2.2]
def gD (w:World) (x:gN) (u:Value × Value):Prop:=(ee 1 eZ w u.1 x.locals/\gd w u.2 x.body)/\∀n∈x.locals,iQ n
theorem gD.below {w w':World} {x:gN} {u:Value × Value} (h:gD w x u) (hb:Below w.heap.size w w'):gD w' x u:=⟨⟨h.1.1.below hb,h.1.2.below hb⟩,h.2⟩
structure gl where
 off:Int
 bytes:List UInt8
deriving DecidableEq
def pT (x:gl × Value):List Value:=[.int .i64 x.1.off,x.2]
def gm (w:World) (x:gl) (u:Value):Prop:=eI w u x.bytes/\iQ x.off
theorem gm.below {w w':World} {x:gl} {u:Value} (h:gm w x u) (hb:Below w.heap.size w w'):gm w' x u:=⟨h.1.below hb,h.2⟩
structure ew where
 types:List gy
 imports:List jd
 funcs:List Int
 table:fL
 mem:fL
 globals:List jb
 dY:List iB
 elems:List iO
 eh:List gN
 eA:List gl
deriving DecidableEq
def ew.ok (m:ew):Prop:=(∀x∈m.imports,iQ x.type)/\(∀n∈m.funcs,iQ n)/\m.table.ok/\m.mem.ok/\(∀x∈m.globals,x.init.ok)/\∀x∈m.dY,iQ x.func
structure eB where
 types:Value
 imports:Value
 funcs:Value
 globals:Value
 dY:Value
 elems:Value
 eh:Value
 eA:Value
def eB.cells (u:eB) (m:ew):Array Value:=
 #[u.types,u.imports,u.funcs, .bool m.table.has, .int .i64 m.table.min, .int .i64 m.table.max, .bool m.mem.has, .int .i64 m.mem.min, .int .i64 m.mem.max,u.globals,u.dY,u.elems,u.eh,u.eA]
def ej (w:World) (u:eB) (m:ew):Prop:=
 sH w u.types m.types/\ee 3 sz w u.imports m.imports/\ee 1 eZ w u.funcs m.funcs/\ee 3 sC w u.globals m.globals/\ee 2 qS w u.dY m.dY/\ea 2 tF gS w u.elems m.elems/\ea 2 rV gD w u.eh m.eh/\ea 2 pT gm w u.eA m.eA/\m.ok
theorem ej.below {w w':World} {u:eB} {m:ew} (h:ej w u m) (hb:Below w.heap.size w w'):ej w' u m:=by
 obtain⟨h1,h2,h3,h4,h5,h6,h7,h8,h9⟩:=h;exact⟨h1.below hb,h2.below hb,h3.below hb,h4.below hb,h5.below hb,h6.below hb (fun _ _ h=>h.below hb),h7.below hb (fun _ _ h=>h.below hb),h8.below hb (fun _ _ h=>h.below hb),h9⟩
def lG (n a b:Int):Bool:=decide (a <=n)&&decide (n <=b)
theorem jJ {n a b:Int}:lG n a b=true↔a <=n/\n <=b:=by simp [lG]
def sw (op:Int):Int × Int:=
 if lG op 69 79 || lG op 103 120 then(1,op)else if lG op 80 90 then(2,op - 80+69)else if lG op 121 138 then(2,op - 121+103)else(0,0)
def eU (op:Int):List Int × Int × Bool:=
 if op=167 then([2],1,true)else if op=172 then([1],2,true)else if op=173 then([1],2,true)else if(sw op).1=0 then([],0,false)else if(sw op).2=69 then([(sw op).1],1,true)
 else if lG (sw op).2 70 79 then([(sw op).1,(sw op).1],1,true)else if lG (sw op).2 103 105 then([(sw op).1],(sw op).1,true)else([(sw op).1,(sw op).1],(sw op).1,true)
theorem z9 {op:Int} (h:(eU op).2.2=true):69 <=op/\op <=173:=by
 unfold eU at h;by_cases h1:op=167
 ·omega
 rw [aC h1]at h;by_cases h2:op=172
 ·omega
 rw [aC h2]at h;by_cases h3:op=173
 ·omega
 rw [aC h3]at h;by_cases h4:(sw op).1=0
 ·rw [aJ h4]at h
  simp at h
 unfold sw at h4;by_cases g1:(lG op 69 79 || lG op 103 120)=true
 ·simp only [Bool.or_eq_true,jJ]at g1
  omega
 rw [aC g1]at h4;by_cases g2:lG op 80 90=true
 ·rw [jJ]at g2
  omega
 rw [aC g2]at h4;by_cases g3:lG op 121 138=true
 ·rw [jJ]at g3
  omega
 rw [aC g3]at h4;exact absurd rfl h4
theorem te (u:Nat) (rest:List UInt8) (hu:u < 4294967296):ia 32 (eL u++rest)=(u,(eL u).length,0):=by
 obtain⟨p,z,h1,h2,h3,h4⟩:=qW 9 u (by omega);change eL u=p++[z]at h1;have hp:p.length <=4:=by
  rcases rz 10 u (by omega)with h | h
  ·change(eL u).length <=1 at h
   rw [h1]at h;simp at h;simp [h]
  ·change 128^((eL u).length - 1) <=u at h
   rw [h1,ah,aB,de]at h;rcases bq 4 p.length with g | g
   ·have:(128:Nat)^5 <=128^p.length:=cQ (by omega) g
    omega
   ·exact g
 have hl:eY 32 (eL u++rest)=((eL u).length,0):=by
  rw [h1,aP,dB];unfold eY;rw [aC (by omega),ou p z rest h2 h3,aC (by omega),aC (by simp)];simp
 unfold ia;rw [hl,aC (by simp)];have ht:(eL u++rest).take (eL u).length=eL u:=cP;simp only [ht];rw [rP (by omega),aJ ⟨rfl,by simpa using hu⟩]
theorem An (n:Int) (rest:List UInt8) (h0: -2147483648 <=n) (h1:n <=2147483647):jo 32 (ib n++rest)=(n,(ib n).length,0):=by
 obtain⟨p,z,e1,e2,e3,e4⟩:=oR 9 n (by omega) (by omega);change ib n=p++[z]at e1;have hp:p.length <=4:=by
  rcases C4 9 n (by omega) (by omega)with h | ⟨-,h⟩
  ·change(ib n).length=1 at h
   rw [e1]at h;simp at h;simp [h]
  ·change ¬ (-(64*128^((ib n).length - 2)) <=n/\n < 64*128^((ib n).length - 2))at h
   rw [e1,ah,aB]at h;rcases bq 4 p.length with g | g
   ·exfalso
    apply h;have h5:(128:Nat)^4 <=128^(p.length+1 - 2):=cQ (by omega) (by omega);have h6:(128:Int)^4 <=128^(p.length+1 - 2):=by
     have:=Int.ofNat_le.2 h5;simpa using this
    have h7:(128:Int)^4=268435456:=by decide
    constructor <;>omega
   ·exact g
 have hl:eY 32 (ib n++rest)=((ib n).length,0):=by
  rw [e1,aP,dB];unfold eY;rw [aC (by omega),ou p z rest e2 e3,aC (by omega),aC (by simp)];simp
 unfold jo;rw [hl,aC (by simp)];have ht:(ib n++rest).take (ib n).length=ib n:=cP;simp only [ht];have h2:n < 9223372036854775808:=by omega
 rw [rO (by omega) h2,aJ ⟨rfl,by simpa using h0,by simp;omega⟩]
def fG (op:Int):Nat:=
 if op=0\/op=1\/op=5\/op=11\/op=15\/op=26\/op=27 then 1
 else if op=2\/op=3\/op=4 then 2
 else if op=12\/op=13\/op=16\/op=32\/op=33\/op=34\/op=35\/op=36 then 3
 else if op=14 then 4
 else if op=17 then 5
 else if op=40\/op=41\/op=44\/op=45\/op=54\/op=55\/op=58 then 6
 else if op=63\/op=64 then 7
 else if op=65 then 8
 else if op=66 then 9
 else if(eU op).2.2=true then 1 else 0
theorem vQ {op:Int} (h:fG op≠0):0 <=op/\op <=173:=by
 unfold fG at h
 repeat (split at h;·omega)
 rename_i hk;split at h
 ·rename_i hk
  have:=z9 hk;omega
 ·exact absurd rfl h
theorem nM (op:Int):fG op <=9:=by
 unfold fG
 repeat (split;·omega)
 omega
def fR (n:Int):Prop:=0 <=n/\n <=1000
instance (n:Int):Decidable (fR n):=by unfold fR;infer_instance
def eK.may (x:eK):Prop:=
 (fG x.op≠4 ->x.l=[])/\(fG x.op≠6 ->x.b=0)/\
 (fG x.op=1/\x.a=0\/fG x.op=2/\(0 <=x.a/\x.a <=2)\/fG x.op=3/\fR x.a\/fG x.op=4/\(fR x.a/\x.l.length <=50/\∀n∈x.l,fR n)\/fG x.op=5/\fR x.a\/
  fG x.op=6/\((0 <=x.a/\x.a <=3)/\0 <=x.b/\x.b <=4294967295)\/fG x.op=7/\x.a=0\/fG x.op=8/\(-2147483648 <=x.a/\x.a <=2147483647)\/fG x.op=9)
instance (x:eK):Decidable x.may:=by unfold eK.may;infer_instance
def fY (x:eK):List UInt8:=
 match fG x.op with
 | 2=>[if x.a=0 then 0x40 else if x.a=1 then 0x7f else 0x7e]
 | 3=>eL x.a.toNat
 | 4=>eL x.l.length++((x.l.map fun n=>eL n.toNat).flatten++eL x.a.toNat)
 | 5=>eL x.a.toNat++[0]
 | 6=>eL x.a.toNat++eL x.b.toNat
 | 7=>[0]
 | 8=>ib x.a
 | 9=>ib x.a
 | _=>[]
def ij (x:eK):List UInt8:=b8 (x.op.toNat %256)::fY x
def lf (MC:Nat) (l:List UInt8):Option (Nat × List UInt8):=if(ia 32 l).2.2=0/\(ia 32 l).1 <=MC then some ((ia 32 l).1,l.drop (ia 32 l).2.1)else none
def AR (bits:Int) (l:List UInt8):Option (Int × List UInt8):=if(jo bits l).2.2=0 then some ((jo bits l).1,l.drop (jo bits l).2.1)else none
def oO:List UInt8 ->Option (List UInt8)
 | 0::l=>some l
 | _=>none
def oV (MC:Nat):Nat ->List UInt8 ->Option (List Int × List UInt8)
 | 0,l=>some ([],l)
 | n+1,l=>(lf MC l).bind fun x=>(oV MC n x.2).bind fun y=>some ((x.1:Int)::y.1,y.2)
def su:List UInt8 ->Option (Int × List UInt8)
 | 0x40::l=>some (0,l)
 | 0x7f::l=>some (1,l)
 | 0x7e::l=>some (2,l)
 | _=>none
def gp:List UInt8 ->Option (eK × List UInt8)
 | []=>none
 | c::l=>match fG c.toNat with
  | 1=>some (⟨c.toNat,0,0,[]⟩,l)
  | 2=>(su l).bind fun x=>some (⟨c.toNat,x.1,0,[]⟩,x.2)
  | 3=>(lf 1000 l).bind fun x=>some (⟨c.toNat,x.1,0,[]⟩,x.2)
  | 4=>(lf 50 l).bind fun n=>(oV 1000 n.1 n.2).bind fun t=>(lf 1000 t.2).bind fun x=>some (⟨c.toNat,x.1,0,t.1⟩,x.2)
  | 5=>(lf 1000 l).bind fun x=>(oO x.2).bind fun r=>some (⟨c.toNat,x.1,0,[]⟩,r)
  | 6=>(lf 3 l).bind fun x=>(lf 4294967295 x.2).bind fun y=>some (⟨c.toNat,x.1,y.1,[]⟩,y.2)
  | 7=>(oO l).bind fun r=>some (⟨c.toNat,0,0,[]⟩,r)
  | 8=>(AR 32 l).bind fun x=>some (⟨c.toNat,x.1,0,[]⟩,x.2)
  | 9=>(AR 64 l).bind fun x=>some (⟨c.toNat,x.1,0,[]⟩,x.2)
  | _=>none
theorem mG {MC n:Nat} (r:List UInt8) (h:n <=MC) (hl:MC < 4294967296):lf MC (eL n++r)=some (n,r):=by
 unfold lf;rw [te n r (by omega)];simp [h]
theorem vP {MC:Nat} (hl:MC < 4294967296):∀(l:List Int) (r:List UInt8),(∀n∈l,0 <=n/\n <=MC) ->oV MC l.length ((l.map fun n=>eL n.toNat).flatten++r)=some (l,r)
 | [],r,_=>rfl
 | n::l,r,h=>by
  obtain⟨h0,h1⟩:=h n (by simp);rw [bC,bS,aP,aI,oV,mG _ (by omega) hl];simp only [aw,vP hl l r (fun x hx=>h x (by simp [hx]))];have:((n.toNat:Nat):Int)=n:=by omega
  rw [this]
theorem C9 (n:Int) (r:List UInt8) (h:iQ n):AR 64 (ib n++r)=some (n,r):=by
 unfold AR;rw [uh n r h.1 h.2];simp
theorem Ct (n:Int) (r:List UInt8) (h0: -2147483648 <=n) (h1:n <=2147483647):AR 32 (ib n++r)=some (n,r):=by
 unfold AR;rw [An n r h0 h1];simp
theorem oG (x:eK) (r:List UInt8) (hm:x.may) (ho:x.ok):gp (ij x++r)=some (x,r):=by
 obtain⟨op,a,b,l⟩:=x;obtain⟨m1,m2,m3⟩:=hm;simp only at m1 m2 m3;have hf:fG op≠0:=by
  rcases m3 with h | h | h | h | h | h | h | h | h <;>first | (rw [h.1];decide) | (rw [h];decide)
 obtain⟨o1,o2⟩:=vQ hf;have hc:((b8 (op.toNat %256)).toNat:Int)=op:=by
  rw [fJ (Nat.mod_lt _ (by omega))];omega
 have key:gp (ij ⟨op,a,b,l⟩++r)=(match fG op with
  | 1=>some (⟨op,0,0,[]⟩,fY ⟨op,a,b,l⟩++r)
  | 2=>(su (fY ⟨op,a,b,l⟩++r)).bind fun x=>some (⟨op,x.1,0,[]⟩,x.2)
  | 3=>(lf 1000 (fY ⟨op,a,b,l⟩++r)).bind fun x=>some (⟨op,x.1,0,[]⟩,x.2)
  | 4=>(lf 50 (fY ⟨op,a,b,l⟩++r)).bind fun n=>(oV 1000 n.1 n.2).bind fun t=>(lf 1000 t.2).bind fun x=>some (⟨op,x.1,0,t.1⟩,x.2)
  | 5=>(lf 1000 (fY ⟨op,a,b,l⟩++r)).bind fun x=>(oO x.2).bind fun r=>some (⟨op,x.1,0,[]⟩,r)
  | 6=>(lf 3 (fY ⟨op,a,b,l⟩++r)).bind fun x=>(lf 4294967295 x.2).bind fun y=>some (⟨op,x.1,y.1,[]⟩,y.2)
  | 7=>(oO (fY ⟨op,a,b,l⟩++r)).bind fun r=>some (⟨op,0,0,[]⟩,r)
  | 8=>(AR 32 (fY ⟨op,a,b,l⟩++r)).bind fun x=>some (⟨op,x.1,0,[]⟩,x.2)
  | 9=>(AR 64 (fY ⟨op,a,b,l⟩++r)).bind fun x=>some (⟨op,x.1,0,[]⟩,x.2)
  | _=>none):=by
  show(match fG ((b8 (op.toNat %256)).toNat:Int)with | 1=>_ | 2=>_ | 3=>_ | 4=>_ | 5=>_ | 6=>_ | 7=>_ | 8=>_ | 9=>_ | _=>_)=_;rw [hc];rfl
 rw [key];rcases m3 with⟨h,h1⟩ | ⟨h,h1,h2⟩ | ⟨h,h1,h2⟩ | ⟨h,⟨h1,h2⟩,h3,h4⟩ | ⟨h,h1,h2⟩ | ⟨h,⟨h1,h2⟩,h3,h4⟩ | ⟨h,h1⟩ | ⟨h,h1,h2⟩ | h
 all_goals
  unfold fY;simp only [h]
 ·rw [h1,m1 (by omega),m2 (by omega)]
  rfl
 ·rw [m1 (by omega),m2 (by omega)]
  rcases(show a=0\/a=1\/a=2 by omega)with rfl | rfl | rfl <;>rfl
 ·rw [mG r (by omega) (by omega),m1 (by omega),m2 (by omega)]
  have:((a.toNat:Nat):Int)=a:=by omega
  simp [this]
 ·rw [aP,aP,mG _ (by omega) (by omega)]
  simp only [aw];rw [vP (by omega) l _ (fun n hn=>by have:=h4 n hn;exact⟨this.1,by have:=this.2;omega⟩)];simp only [aw];rw [mG r (by omega) (by omega),m2 (by omega)];have:((a.toNat:Nat):Int)=a:=by omega
  simp [this]
 ·rw [aP,mG _ (by omega) (by omega),m1 (by omega),m2 (by omega)]
  have:((a.toNat:Nat):Int)=a:=by omega
  simp [this,oO]
 ·rw [aP,mG _ (by omega) (by omega)]
  simp only [aw];rw [mG _ (by omega) (by omega),m1 (by omega)];have e1:((a.toNat:Nat):Int)=a:=by omega
  have e2:((b.toNat:Nat):Int)=b:=by omega
  simp [e1,e2]
 ·rw [h1,m1 (by omega),m2 (by omega)]
  rfl
 ·rw [Ct a r h1 h2,m1 (by omega),m2 (by omega)]
  rfl
 ·rw [C9 a r ho.2.1,m1 (by omega),m2 (by omega)]
  rfl
structure jU where
 pos:Int
 JC:Int
 fin:Int
deriving DecidableEq
def wK (b:jU):List Value:=[.int .i64 b.pos, .int .i64 b.JC, .int .i64 b.fin]
def jS (op:Int):Bool:=op==2 || op==3 || op==4
def gb (l:List eK) (i:Nat) (x:eK) (st:List jU × List Nat):Option (List jU × List Nat):=
 if jS x.op then(if st.2.length=40 then none else some (st.1++[⟨i,-1,-1⟩],st.2++[st.1.length]))
 else if x.op≠5/\x.op≠11 then some st
 else match st.2.getLast? with
  | none=>none
  | some k=>match st.1[k]? with
   | none=>none
   | some b=>if x.op=11 then some (st.1.set k {b with fin:=i},st.2.dropLast)
    else match l[b.pos.toNat]? with
     | none=>none
     | some y=>if y.op≠4\/0 <=b.JC then none else some (st.1.set k {b with JC:=i},st.2)
def gq (l:List eK):List eK ->Nat ->List jU × List Nat ->Option (List jU × List Nat)
 | [],_,st=>some st
 | x::rest,i,st=>(gb l i x st).bind fun Nw=>gq l rest (i+1) Nw
def fu (l:List eK):Option (List jU):=
 if 300 < l.length then none else(gq l l 0 ([],[])).bind fun st=>if st.2=[]then some st.1 else none
def mV (l:List eK):List UInt8:=(l.map ij).flatten++[11]
def hI (op deep:Int):Int:=if op=11 then deep - 1 else if jS op then deep+1 else deep
def kn:Nat ->List eK ->Int ->List UInt8 ->Option (List eK × List UInt8)
 | 0,_,_,_=>none
 | f+1,acc,deep,l=>(gp l).bind fun x=>
  if hI x.1.op deep < 0 then(if(fu acc).isSome then some (acc,x.2)else none)else if 300 < acc.length+1 then none else kn f (acc++[x.1]) (hI x.1.op deep) x.2
def kX (l:List UInt8):Option (List eK × List UInt8):=kn 301 [] 0 l
theorem pR {l:List eK} {i:Nat} {x:eK} {st Nw:List jU × List Nat} (h:gb l i x st=some Nw):0 <=hI x.op st.2.length/\(Nw.2.length:Int)=hI x.op st.2.length:=by
 unfold gb at h;unfold hI;by_cases h1:jS x.op=true
 ·rw [aJ h1]at h
  have h11:x.op≠11:=by
   intro e;rw [e]at h1;simp [jS]at h1
  rw [aC h11,aJ h1];split at h
  ·cases h
  ·injection h with h
   subst h;simp;omega
 rw [aC h1]at h;by_cases h2:x.op≠5/\x.op≠11
 ·rw [aJ h2]at h
  injection h with h;subst h;rw [aC h2.2,aC h1];exact⟨by omega,rfl⟩
 rw [aC h2]at h;cases hg:st.2.getLast? with
 | none=>rw [hg]at h;cases h
 | some k=>
  rw [hg]at h;have hl:1 <=st.2.length:=by
   rcases aY st.2.length with g | g
   ·rw [aH g]at hg
    simp at hg
   ·exact g
  simp only at h;cases hb:st.1[k]? with
  | none=>rw [hb]at h;cases h
  | some b=>
   rw [hb]at h;simp only at h;by_cases h3:x.op=11
   ·rw [aJ h3]at h
    injection h with h;subst h;rw [aJ h3];simp only [dn];omega
   ·rw [aC h3]at h
    rw [aC h3,aC h1];cases hy:l[b.pos.toNat]? with
    | none=>rw [hy]at h;cases h
    | some y=>
     rw [hy]at h;simp only at h;split at h
     ·cases h
     ·injection h with h
      subst h;exact⟨by omega,rfl⟩
theorem zZ (r:List UInt8):gp (11::r)=some (⟨11,0,0,[]⟩,r):=by
 have h:=oG ⟨11,0,0,[]⟩ r (by decide) ⟨⟨by decide,by decide⟩,⟨by decide,by decide⟩,⟨by decide,by decide⟩,by simp⟩;have e:ij ⟨11,0,0,[]⟩=[11]:=by decide
 rw [e]at h;exact h
theorem tA {body:List eK} (hm:(fu body).isSome=true) (hl:body.length <=300) (r:List UInt8):∀(rest acc:List eK) (i:Nat) (st Nw:List jU × List Nat) (f:Nat),acc++rest=body ->gq body rest i st=some Nw ->Nw.2=[] ->
  (∀x∈rest,x.may/\x.ok) ->acc.length+f=301 ->kn f acc st.2.length ((rest.map ij).flatten++11::r)=some (body,r)
 | [],acc,i,st,Nw,f,ha,hg,he,_,hf=>by
  rw [bW]at ha;subst ha;injection hg with hg;subst hg;obtain⟨f,rfl⟩:∃f',f=f'+1:=⟨f - 1,by omega⟩;rw [cR,List.flatten_nil,bM,kn,zZ];simp only [aw];rw [he,aJ (by simp [hI]),aJ hm]
 | x::rest,acc,i,st,Nw,f,ha,hg,he,hx,hf=>by
  have hla:acc.length+rest.length+1 <=300:=by
   rw [<- ha]at hl;simp at hl;omega
  obtain⟨f,rfl⟩:∃f',f=f'+1:=⟨f - 1,by omega⟩;rw [gq]at hg;cases hs:gb body i x st with
  | none=>rw [hs]at hg;cases hg
  | some Qw=>
   rw [hs]at hg;simp only [aw]at hg;obtain⟨d0,d1⟩:=pR hs;obtain⟨m1,m2⟩:=hx x (by simp);rw [bC,bS,aP,kn,oG x _ m1 m2];simp only [aw];rw [aC (by omega),aC (by omega), <- d1];exact tA hm hl r rest (acc++[x]) (i+1) Qw Nw f (by simp [ha]) hg he (fun y hy=>hx y (by simp [hy])) (by simp;omega)
theorem CZ (l:List eK) (r:List UInt8) (hm:(fu l).isSome=true) (hx:∀x∈l,x.may/\x.ok):kX (mV l++r)=some (l,r):=by
 have hm':=hm;unfold fu at hm;split at hm
 ·cases hm
 ·rename_i hl
  cases hg:gq l l 0 ([],[])with
  | none=>rw [hg]at hm;cases hm
  | some st=>
   rw [hg]at hm;simp only [aw]at hm;split at hm
   ·rename_i he
    have:=tA hm' (by omega) r l [] 0 ([],[]) st 301 rfl hg he hx rfl;rw [kX,mV,aP];exact this
   ·cases hm
abbrev iP (α:Type):=List UInt8 ->Option (α × List UInt8)
def fQ:iP Nat:=fun l=>if(ia 32 l).2.2=0 then some ((ia 32 l).1,l.drop (ia 32 l).2.1)else none
theorem kO (n:Nat) (r:List UInt8) (h:n < 4294967296):fQ (eL n++r)=some (n,r):=by
 unfold fQ;rw [te n r h];simp
def eX:iP UInt8
 | []=>none
 | c::l=>some (c,l)
def lY:iP (List UInt8):=fun l=>(fQ l).bind fun n=>if n.2.length < n.1 then none else some (n.2.take n.1,n.2.drop n.1)
theorem xO (b r:List UInt8) (h:b.length < 4294967296):lY (eL b.length++(b++r))=some (b,r):=by
 unfold lY;rw [kO _ _ h];simp only [aw];rw [aC (by simp)];simp
def rU {α:Type} (get:iP α):Nat ->iP (List α)
 | 0,l=>some ([],l)
 | n+1,l=>(get l).bind fun x=>(rU get n x.2).bind fun y=>some (x.1::y.1,y.2)
def fh {α:Type} (get:iP α):iP (List α):=fun l=>(fQ l).bind fun n=>rU get n.1 n.2
def eS {α:Type} (put:α ->List UInt8) (l:List α):List UInt8:=eL l.length++(l.map put).flatten
theorem zN {α:Type} {get:iP α} {put:α ->List UInt8}:∀(l:List α) (r:List UInt8),(∀x∈l,∀r,get (put x++r)=some (x,r)) ->rU get l.length ((l.map put).flatten++r)=some (l,r)
 | [],r,_=>rfl
 | x::l,r,h=>by
  rw [bC,bS,aP,aI,rU,h x (by simp)];simp only [aw,zN l r (fun y hy=>h y (by simp [hy]))]
theorem nK {α:Type} {get:iP α} {put:α ->List UInt8} (l:List α) (r:List UInt8) (hl:l.length < 4294967296) (h:∀x∈l,∀r,get (put x++r)=some (x,r)):fh get (eS put l++r)=some (l,r):=by
 unfold fh eS;rw [aP,kO _ _ hl];exact zN l r h
def kindOk (k:Int):Prop:=k=1\/k=2
instance (k:Int):Decidable (kindOk k):=by unfold kindOk;infer_instance
def je (k:Int):List UInt8:=[if k=1 then 0x7f else 0x7e]
def gH:iP Int
 | 0x7f::l=>some (1,l)
 | 0x7e::l=>some (2,l)
 | _=>none
theorem og {k:Int} (h:kindOk k) (r:List UInt8):gH (je k++r)=some (k,r):=by
 rcases h with rfl | rfl <;>rfl
def oL (s:ByteArray):List UInt8:=eL s.data.toList.length++s.data.toList
def jz:iP ByteArray:=fun l=>(lY l).bind fun x=>some (bs x.1,x.2)
theorem rC (s:ByteArray) (r:List UInt8) (h:s.data.toList.length < 4294967296):jz (oL s++r)=some (s,r):=by
 unfold jz oL;rw [aP,xO _ _ h];obtain⟨⟨l⟩⟩:=s;rfl
def lQ (v:fb):List UInt8:=ij ⟨if v.kind=2 then 66 else 65,v.n,0,[]⟩++[11]
def gE:iP fb:=fun l=>(gp l).bind fun x=>if x.1.op=65\/x.1.op=66 then(eX x.2).bind fun c=>some (⟨if x.1.op=66 then 2 else 1,x.1.a⟩,c.2)else none
theorem xJ:iQ 0:=⟨by decide,by decide⟩
theorem Ht (n:Int):eK.may ⟨66,n,0,[]⟩:=⟨fun _=>rfl,fun _=>rfl,by
 right;right;right;right;right;right;right;right
 show fG 66=9
 decide⟩
theorem Ej {n:Int} (h1: -2147483648 <=n) (h2:n <=2147483647):eK.may ⟨65,n,0,[]⟩:=⟨fun _=>rfl,fun _=>rfl,by
 right;right;right;right;right;right;right;left
 exact⟨by show fG 65=8;decide,h1,h2⟩⟩
theorem uG {v:fb} (hm:v.may) (ho:v.ok) (r:List UInt8):gE (lQ v++r)=some (v,r):=by
 obtain⟨k,n⟩:=v;have h66:iQ 66:=⟨by decide,by decide⟩;have h65:iQ 65:=⟨by decide,by decide⟩;unfold gE lQ;rcases hm with hk | ⟨hk,h1,h2⟩
 ·simp only at hk
  subst hk;have e:gp (ij ⟨66,n,0,[]⟩++([11]++r))=some (⟨66,n,0,[]⟩,[11]++r):=oG ⟨66,n,0,[]⟩ _ (Ht n) ⟨h66,ho.2,xJ,by simp⟩;rw [aJ rfl,aP,e];rfl
 ·simp only at hk h1 h2
  subst hk;have e:gp (ij ⟨65,n,0,[]⟩++([11]++r))=some (⟨65,n,0,[]⟩,[11]++r):=oG ⟨65,n,0,[]⟩ _ (Ej h1 h2) ⟨h65,ho.2,xJ,by simp⟩;rw [aC (by show ¬ (1:Int)=2;decide),aP,e];rfl
def lV (n:Int):Prop:= -2147483648 <=n/\n <=2147483647
instance (n:Int):Decidable (lV n):=by unfold lV;infer_instance
def nx (n:Int):List UInt8:=0::lQ ⟨1,n⟩
def ji:iP Int:=fun l=>(eX l).bind fun c=>(gE c.2).bind fun v=>some (v.1.n,v.2)
theorem tu {n:Int} (h:lV n) (r:List UInt8):ji (nx n++r)=some (n,r):=by
 unfold ji nx;rw [bL];simp only [eX,aw];rw [uG (v:=⟨1,n⟩) (.inr ⟨rfl,h.1,h.2⟩) ⟨⟨by show(-9223372036854775808:Int) <=1;decide,by show(1:Int) <=9223372036854775807;decide⟩,by have:=h.1;show(-9223372036854775808:Int) <=n;omega,by have:=h.2;show n <=(9223372036854775807:Int);omega⟩];rfl
def gC (x:fL):List UInt8:=if x.max < 0 then 0::eL x.min.toNat else 1::(eL x.min.toNat++eL x.max.toNat)
def fZ:iP fL:=fun l=>(eX l).bind fun c=>(fQ c.2).bind fun n=>if c.1=0 then some (⟨true,n.1,-1⟩,n.2)else(fQ n.2).bind fun m=>some (⟨true,n.1,m.1⟩,m.2)
def fL.may (least fg:Int) (x:fL):Prop:=if x.has=true then(0 <=x.min/\x.min <=least)/\ -1 <=x.max/\x.max <=fg else x.min=0/\x.max=0
instance (least fg:Int) (x:fL):Decidable (x.may least fg):=by unfold fL.may;infer_instance
theorem xL {least fg:Int} {x:fL} (hh:x.has=true) (hm:x.may least fg) (hl:least <=100000) (hmo:fg <=100000) (r:List UInt8):fZ (gC x++r)=some (x,r):=by
 obtain⟨has,mn,mx⟩:=x;simp only at hh;subst hh;unfold fL.may at hm;rw [aJ rfl]at hm;obtain⟨⟨h1,h2⟩,h3,h4⟩:=hm;simp only at h1 h2 h3 h4;have e1:((mn.toNat:Nat):Int)=mn:=by omega
 unfold fZ gC;by_cases hx:mx < 0
 ·rw [aJ hx,bL]
  simp only [eX,aw];rw [kO _ _ (by omega)];have:mx= -1:=by omega
  simp [e1,this]
 ·rw [aC hx,bL,aP]
  simp only [eX,aw];rw [kO _ _ (by omega)];simp only [aw];rw [aC (by decide),kO _ _ (by omega)];have e2:((mx.toNat:Nat):Int)=mx:=by omega
  simp [e1,e2]
def gx:List Int ->List (Nat × Int)
 | []=>[]
 | k::l=>match gx l with
  | []=>[(1,k)]
  | (n,k')::t=>if k=k' then(n+1,k')::t else(1,k)::(n,k')::t
def iN (l:List (Nat × Int)):List Int:=(l.map fun x=>List.replicate x.1 x.2).flatten
theorem rW:∀l:List Int,iN (gx l)=l
 | []=>rfl
 | k::l=>by
  have ih:=rW l;rw [gx];cases hr:gx l with
  | nil=>
   rw [hr]at ih;simp only [iN]at ih⊢;simp at ih⊢;exact ih
  | cons x t=>
   obtain⟨n,k'⟩:=x;rw [hr]at ih;simp only;split
   ·rename_i h
    subst h;simp only [iN,bC,bS]at ih⊢;rw [List.replicate_succ,bL,ih]
   ·simp only [iN,bC,bS]at ih⊢
    rw [ih];rfl
theorem qG:∀(l:List Int) (x:Nat × Int),x∈gx l ->x.2∈l/\x.1 <=l.length
 | [],x,h=>by simp [gx]at h
 | k::l,x,h=>by
  have ih:=qG l;rw [gx]at h;cases hr:gx l with
  | nil=>
   rw [hr]at h;simp at h;subst h;simp
  | cons y t=>
   obtain⟨n,k'⟩:=y;rw [hr]at h ih;simp only at h;split at h
   ·rename_i hk
    rcases bJ.1 h with rfl | h
    ·have:=ih (n,k') (by simp)
     exact⟨by simp [this.1],by simp only [aI];have:=this.2;simp only at this;omega⟩
    ·have:=ih x (by simp [h])
     exact⟨by simp [this.1],by simp only [aI];omega⟩
   ·rcases bJ.1 h with rfl | h
    ·simp
    ·have:=ih x h
     exact⟨by simp [this.1],by simp only [aI];omega⟩
theorem oM (l:List Int):(gx l).length <=l.length:=by
 induction l with
 | nil=>simp [gx]
 | cons k l ih=>
  rw [gx];cases hr:gx l with
  | nil=>simp
  | cons y t=>
   obtain⟨n,k'⟩:=y;rw [hr]at ih;simp only;split <;>simp only [aI]at ih⊢ <;>omega
def xq (x:Nat × Int):List UInt8:=eL x.1++je x.2
def lR:iP (Nat × Int):=fun l=>(fQ l).bind fun n=>(gH n.2).bind fun k=>if 32 < n.1 then none else some ((n.1,k.1),k.2)
def kh (l:List Int):List UInt8:=eS xq (gx l)
def jy:iP (List Int):=fun l=>(fh lR l).bind fun x=>some (iN x.1,x.2)
theorem zP {l:List Int} (hl:l.length <=32) (hk:∀k∈l,kindOk k) (r:List UInt8):jy (kh l++r)=some (l,r):=by
 unfold jy kh;have:=oM l;rw [nK (put:=xq) (gx l) r (by omega) (fun x hx r=>by
  obtain⟨h1,h2⟩:=qG l x hx;unfold lR xq;rw [aP,kO _ _ (by omega)];simp only [aw];rw [og (hk _ h1)];simp only [aw];rw [aC (by omega)])]
 simp [rW]
def gN.may (x:gN):Prop:=(fu x.body).isSome=true/\(x.locals.length <=32/\∀k∈x.locals,kindOk k)/\x.body.length <=300/\∀y∈x.body,y.may
def lT (x:gN):List UInt8:=kh x.locals++mV x.body
def im (x:gN):List UInt8:=eL (lT x).length++lT x
def lO:iP gN:=fun l=>(fQ l).bind fun n=>(jy n.2).bind fun k=>(kX k.2).bind fun b=>some (⟨k.1,b.1⟩,b.2)
theorem CF {x:gN} (hm:x.may) (ho:∀y∈x.body,y.ok) (hs:(lT x).length < 4294967296) (r:List UInt8):lO (im x++r)=some (x,r):=by
 obtain⟨m1,⟨m2,m3⟩,m4,m5⟩:=hm;unfold lO im;rw [aP,kO _ _ hs];simp only [aw,lT];rw [aP,zP m2 m3];simp only [aw];rw [CZ _ _ m1 (fun y hy=>⟨m5 y hy,ho y hy⟩)];rfl
def jR (s:ByteArray):Prop:=s.data.toList≠[]/\s.data.toList.length <=16/\∀c∈s.data.toList,32 <=c.toNat/\c.toNat <=126
instance (s:ByteArray):Decidable (jR s):=by unfold jR;infer_instance
def kW (t:gy):List UInt8:=0x60::(eS je t.params++eS je t.results)
def oS:iP gy:=fun l=>(eX l).bind fun c=>(fh gH c.2).bind fun p=>(fh gH p.2).bind fun q=>some (⟨p.1,q.1⟩,q.2)
def gy.may (t:gy):Prop:=(t.params.length <=32/\∀k∈t.params,kindOk k)/\t.results.length <=1/\∀k∈t.results,kindOk k
theorem De {t:gy} (h:t.may) (r:List UInt8):oS (kW t++r)=some (t,r):=by
 obtain⟨⟨h1,h2⟩,h3,h4⟩:=h;unfold oS kW;rw [bL,aP];simp only [eX,aw];rw [nK _ _ (by omega) (fun k hk r=>og (h2 k hk) r)];simp only [aw];rw [nK _ _ (by omega) (fun k hk r=>og (h4 k hk) r)];rfl
def rD (n:Int):List UInt8:=eL n.toNat
def uN:iP Int:=fun l=>(fQ l).bind fun n=>some ((n.1:Int),n.2)
theorem sJ {n:Int} (h:fR n) (r:List UInt8):uN (rD n++r)=some (n,r):=by
 obtain⟨h1,h2⟩:=h;unfold uN rD;rw [kO _ _ (by omega)];have:((n.toNat:Nat):Int)=n:=by omega
 simp [this]
def nq (x:jd):List UInt8:=oL x.mod++(oL x.name++(0::rD x.type))
def uw:iP jd:=fun l=>(jz l).bind fun a=>(jz a.2).bind fun b=>(eX b.2).bind fun c=>(uN c.2).bind fun n=>some (⟨a.1,b.1,n.1⟩,n.2)
def jd.may (x:jd):Prop:=jR x.mod/\jR x.name/\fR x.type
theorem FE {x:jd} (h:x.may) (r:List UInt8):uw (nq x++r)=some (x,r):=by
 obtain⟨⟨_,h1,_⟩,⟨_,h2,_⟩,h3⟩:=h;unfold uw nq;rw [aP,rC _ _ (by omega)];simp only [aw];rw [aP,rC _ _ (by omega)];simp only [aw,bL,eX];rw [sJ h3];rfl
def jf (x:fL):List UInt8:=0x70::gC x
def kS:iP fL:=fun l=>(eX l).bind fun c=>fZ c.2
def kB (x:jb):List UInt8:=je x.init.kind++((if x.isVar=true then 1 else 0)::lQ x.init)
def o8:iP jb:=fun l=>(gH l).bind fun k=>(eX k.2).bind fun c=>(gE c.2).bind fun v=>some (⟨c.1 !=0,v.1⟩,v.2)
theorem CO {x:jb} (h:x.init.may) (ho:x.init.ok) (r:List UInt8):o8 (kB x++r)=some (x,r):=by
 obtain⟨v,i⟩:=x;have hk:kindOk i.kind:=by
  rcases h with h | ⟨h,_⟩
  ·exact .inr h
  ·exact .inl h
 unfold o8 kB;rw [aP,og hk];simp only [aw,bL,eX];rw [uG h ho];cases v <;>rfl
def nE (x:iB):List UInt8:=oL x.name++(0::rD x.func)
def tN:iP iB:=fun l=>(jz l).bind fun a=>(eX a.2).bind fun c=>(uN c.2).bind fun n=>some (⟨a.1,n.1⟩,n.2)
def iB.may (x:iB):Prop:=jR x.name/\fR x.func
theorem D2 {x:iB} (h:x.may) (r:List UInt8):tN (nE x++r)=some (x,r):=by
 obtain⟨⟨_,h1,_⟩,h3⟩:=h;unfold tN nE;rw [aP,rC _ _ (by omega)];simp only [aw,bL,eX];rw [sJ h3];rfl
def kI (x:iO):List UInt8:=nx x.off++eS rD x.funcs
def oU:iP iO:=fun l=>(ji l).bind fun n=>(fh uN n.2).bind fun t=>some (⟨n.1,t.1⟩,t.2)
def iO.may (x:iO):Prop:=lV x.off/\x.funcs.length <=50/\∀n∈x.funcs,fR n
theorem Cy {x:iO} (h:x.may) (r:List UInt8):oU (kI x++r)=some (x,r):=by
 obtain⟨h1,h2,h3⟩:=h;unfold oU kI;rw [aP,tu h1];simp only [aw];rw [nK _ _ (by omega) (fun k hk r=>sJ (h3 k hk) r)];rfl
def nD (x:gl):List UInt8:=nx x.off++(eL x.bytes.length++x.bytes)
def uD:iP gl:=fun l=>(ji l).bind fun n=>(lY n.2).bind fun b=>some (⟨n.1,b.1⟩,b.2)
def gl.may (x:gl):Prop:=lV x.off/\x.bytes.length <=1000
theorem Fl {x:gl} (h:x.may) (r:List UInt8):uD (nD x++r)=some (x,r):=by
 obtain⟨h1,h2⟩:=h;unfold uD nD;rw [aP,tu h1];simp only [aw];rw [aP,xO _ _ (by omega)];rfl
def fB {α:Type} (no:UInt8) (put:α ->List UInt8) (l:List α):List UInt8:=match l with
 | []=>[]
 | _=>no::(eL (eS put l).length++eS put l)
def oneOf (x:fL):List fL:=if x.has=true then [x]else []
def fw:List UInt8:=[0,0x61,0x73,0x6d,1,0,0,0]
def oN (m:ew):List UInt8:=
 fB 1 kW m.types++(fB 2 nq m.imports++(fB 3 rD m.funcs++(fB 4 jf (oneOf m.table)++(fB 5 gC (oneOf m.mem)++(fB 6 kB m.globals++(fB 7 nE m.dY++(fB 9 kI m.elems++(fB 10 im m.eh++fB 11 nD m.eA))))))))
def fy (m:ew):List UInt8:=fw++oN m
def m0:ew:=⟨[],[],[],⟨false,0,0⟩,⟨false,0,0⟩,[],[],[],[],[]⟩
def jM (l:List fL):fL:=match l with
 | []=>⟨false,0,0⟩
 | x::_=>x
def jN (no:Nat) (m:ew) (l:List UInt8):Option (ew × List UInt8):=match no with
 | 1=>(fh oS l).bind fun x=>some ({m with types:=x.1},x.2)
 | 2=>(fh uw l).bind fun x=>some ({m with imports:=x.1},x.2)
 | 3=>(fh uN l).bind fun x=>some ({m with funcs:=x.1},x.2)
 | 4=>(fh kS l).bind fun x=>some ({m with table:=jM x.1},x.2)
 | 5=>(fh fZ l).bind fun x=>some ({m with mem:=jM x.1},x.2)
 | 6=>(fh o8 l).bind fun x=>some ({m with globals:=x.1},x.2)
 | 7=>(fh tN l).bind fun x=>some ({m with dY:=x.1},x.2)
 | 9=>(fh oU l).bind fun x=>some ({m with elems:=x.1},x.2)
 | 10=>(fh lO l).bind fun x=>some ({m with eh:=x.1},x.2)
 | 11=>(fh uD l).bind fun x=>some ({m with eA:=x.1},x.2)
 | _=>none
def nL:Nat ->ew ->List UInt8 ->Option ew
 | 0,_,_=>none
 | _+1,m,[]=>some m
 | f+1,m,no::l=>(fQ l).bind fun k=>(jN no.toNat m k.2).bind fun x=>nL f x.1 x.2
def mh (l:List UInt8):Option ew:=if 8000 < l.length then none else if l.take 8=fw then nL (l.length+1) m0 (l.drop 8)else none
theorem ka {α:Type} {no:UInt8} {put:α ->List UInt8} {get:iP α} {l:List α} {m m':ew} (upd:List α ->ew) (NI:∀b,jN no.toNat m b=(fh get b).bind fun x=>some (upd x.1,x.2)) (h0:l=[] ->m'=m) (h1:upd l=m')
  (hp:∀x∈l,∀r,get (put x++r)=some (x,r)) (hl:l.length < 4294967296) (hs:(eS put l).length < 4294967296) (f:Nat) (r:List UInt8) (hf:(fB no put l++r).length < f):
  ∃f',r.length < f'/\nL f m (fB no put l++r)=nL f' m' r:=by
 cases l with
 | nil=>
  rw [h0 rfl];exact⟨f,by simpa [fB] using hf,rfl⟩
 | cons x l=>
  obtain⟨f,rfl⟩:∃f',f=f'+1:=⟨f - 1,by omega⟩;refine⟨f,?_,?_⟩
  ·simp only [fB,ah,aI]at hf
   omega
  ·simp only [fB,bL,aP]
   rw [nL,kO _ _ hs];simp only [aw];rw [NI,nK _ _ hl hp];simp only [aw];rw [h1]
def ew.Ga (m:ew):Prop:=
 (∀x∈m.types,x.may)/\(∀x∈m.imports,x.may)/\(∀n∈m.funcs,fR n)/\m.table.may 16 1000/\m.mem.may 16 65536/\(∀x∈m.globals,x.init.may)/\(∀x∈m.dY,x.may)/\(∀x∈m.elems,x.may)/\(∀x∈m.eh,x.may)/\∀x∈m.eA,x.may
theorem yH {α:Type} (no:UInt8) (put:α ->List UInt8) (l:List α):l=[]\/(eS put l).length < (fB no put l).length:=by
 cases l with
 | nil=>exact .inl rfl
 | cons x l=>
  right
  simp only [fB,aI,ah];omega
theorem jt {α:Type} (no:UInt8) (put:α ->List UInt8) (l:List α) {n:Nat} (h:(fB no put l).length <=n) (hn:n <=8000):(eS put l).length < 4294967296:=by
 rcases yH no put l with h1 | h1
 ·rw [h1]
  have:=(eD 0).2;simp only [eS,aM,cR,List.flatten_nil,bW];omega
 ·omega
theorem lz {α:Type} (put:α ->List UInt8):∀l:List α,(∀x∈l,1 <=(put x).length) ->l.length <=(eS put l).length:=by
 intro l h;have:∀l:List α,(∀x∈l,1 <=(put x).length) ->l.length <=((l.map put).flatten).length:=by
  intro l
  induction l with
  | nil=>simp
  | cons x l ih=>
   intro h;have h1:=h x (by simp);have h2:=ih (fun y hy=>h y (by simp [hy]));simp only [bC,bS,ah,aI];omega
 have:=this l h;simp only [eS,ah];omega
theorem Bf {x:gN} {m:ew} (hx:x∈m.eh) (hl:(fy m).length <=8000):(lT x).length < 4294967296:=by
 have h1:(im x).length <=((m.eh.map im).flatten).length:=by
  obtain⟨a,b,Pn⟩:=List.append_of_mem hx;rw [Pn];simp only [cg,bC,List.flatten_append,bS,ah];omega
 rcases yH 10 im m.eh with h2 | h2
 ·rw [h2]at hx
  simp at hx
 ·simp only [fy,oN,ah]at hl
  simp only [eS,ah]at h2;simp only [im,ah]at h1;omega
def mask (S:Nat ->Bool) (w:World):World:={w with heap:=w.heap.mapIdx fun i o=>if S i=true then .cells #[] 0 else o}
theorem gX (S:Nat ->Bool) (w:World):(mask S w).heap.size=w.heap.size:=by simp [mask]
theorem jn {S:Nat ->Bool} (w:World) {k:Nat} (h:S k=false):(mask S w).heap[k]?=w.heap[k]?:=by
 simp [mask,h]
theorem oY {S:Nat ->Bool} (w:World) {k:Nat} (h:S k=true):(mask S w).heap[k]?=(w.heap[k]?).map fun _=>Obj.cells #[] 0:=by
 simp [mask,h]
theorem fX {S:Nat ->Bool} {w:World} {b i:Nat} {v:Value} (h:(mask S w).cell? ⟨b,i,none⟩=some v):S b=false/\w.cell? ⟨b,i,none⟩=some v:=by
 cases hs:S b with
 | true=>
  exfalso;unfold World.cell? at h;rw [oY w hs]at h;cases hg:w.heap[b]? with
  | none=>rw [hg]at h;simp at h
  | some o=>rw [hg]at h;simp at h
 | false=>
  refine⟨rfl,?_⟩;unfold World.cell? at h⊢;rw [jn w hs]at h;exact h
theorem dS.mask {P:Nat ->Prop} {S:Nat ->Bool} {w w':World} (h:dS P w w') (hs:∀k,P k ->S k=true):Below (mask S w).heap.size (mask S w) (mask S w'):=by
 refine⟨h.os,h.tape,h.output,by rw [gX,gX];exact h.size,fun k hk=>?_⟩;rw [gX]at hk;cases hb:S k with
 | true=>
  rw [oY _ hb,oY _ hb,Array.getElem?_eq_getElem hk,Array.getElem?_eq_getElem (bK hk h.size)];rfl
 | false=>
  rw [jn _ hb,jn _ hb];exact h.block k hk (fun g=>by rw [hs k g]at hb;cases hb)
theorem AK {S:Nat ->Bool} {w w':World} (h:Below w.heap.size w w'):Below (mask S w).heap.size (mask S w) (mask S w'):=
 (dS.dV (S:=fun _=>False) h).mask (fun _ h=>h.elim)
theorem ee.fP {α:Type} {k:Nat} {enc:α ->List Value} {S:Nat ->Bool} {w:World} {v:Value} {l:List α} (h:ee k enc (mask S w) v l):ee k enc w v l:=by
 obtain⟨a,cap,hv,h1,h2,h3⟩:=h;refine⟨a,cap,hv,h1,h2,fun i x hx=>?_⟩;obtain⟨b,off,ha,Kq,hc⟩:=h3 i x hx;exact⟨b,off,ha,by rw [gX]at Kq;exact Kq,fun j u hu=>(fX (hc j u hu)).2⟩
theorem ea.fP {α β:Type} {k:Nat} {enc:α × β ->List Value} {inner:World ->α ->β ->Prop} {S:Nat ->Bool} {w:World} {v:Value} {l:List α} (h:ea k enc inner (mask S w) v l) (hi:∀x u,inner (mask S w) x u ->inner w x u):ea k enc inner w v l:=by
 obtain⟨us,h1,h2,h3⟩:=h;exact⟨us,h1,h2.fP,fun i x u hx hu=>hi x u (h3 i x u hx hu)⟩
theorem eI.fP {S:Nat ->Bool} {w:World} {v:Value} {l:List UInt8} (h:eI (mask S w) v l):eI w v l:=by
 obtain⟨a,cap,hv,h1,h2,h3⟩:=h;refine⟨a,cap,hv,h1,h2,fun i x hx=>?_⟩;obtain⟨b,off,ha,hc⟩:=h3 i x hx;exact⟨b,off,ha,(fX hc).2⟩
theorem dR.mask {α:Type} {t:TypeId} {k:Nat} {enc:α ->List Value} {S:Nat ->Bool} {w:World} {B:Nat} {v:Value} {l:List α} (h:dR t k enc w B v l) (hs:∀b,B <=b ->S b=false):dR t k enc (mask S w) B v l:=by
 obtain⟨hl,hv | ⟨g,cap,cur,hv,hb,hg,rest⟩⟩:=h
 ·exact⟨hl, .inl hv⟩
 ·exact⟨hl, .inr ⟨g,cap,cur,hv,hb,by rw [jn w (hs g hb)];exact hg,rest⟩⟩
theorem dU.mask {S:Nat ->Bool} {w:World} {B:Nat} {v:Value} {l:List UInt8} (h:dU w B v l) (hs:∀b,B <=b ->S b=false):dU (mask S w) B v l:=by
 obtain⟨hl,hv | ⟨g,cap,cur,hv,hb,hg,rest⟩⟩:=h
 ·exact⟨hl, .inl hv⟩
 ·exact⟨hl, .inr ⟨g,cap,cur,hv,hb,by rw [jn w (hs g hb)];exact hg,rest⟩⟩
theorem gJ.fP {S:Nat ->Bool} {w:World} {x:eK} {u:Value} (h:gJ (mask S w) x u):gJ w x u:=⟨h.1.fP,h.2⟩
theorem gd.fP {S:Nat ->Bool} {w:World} {v:Value} {l:List eK} (h:gd (mask S w) v l):gd w v l:=ea.fP h (fun _ _ h=>h.fP)
theorem gG.fP {S:Nat ->Bool} {w:World} {x:gy} {u:Value × Value} (h:gG (mask S w) x u):gG w x u:=⟨⟨h.1.1.fP,h.1.2.fP⟩,h.2⟩
theorem gS.fP {S:Nat ->Bool} {w:World} {x:iO} {u:Value} (h:gS (mask S w) x u):gS w x u:=⟨h.1.fP,h.2⟩
theorem gD.fP {S:Nat ->Bool} {w:World} {x:gN} {u:Value × Value} (h:gD (mask S w) x u):gD w x u:=⟨⟨h.1.1.fP,h.1.2.fP⟩,h.2⟩
theorem gm.fP {S:Nat ->Bool} {w:World} {x:gl} {u:Value} (h:gm (mask S w) x u):gm w x u:=⟨h.1.fP,h.2⟩
theorem ej.fP {S:Nat ->Bool} {w:World} {u:eB} {m:ew} (h:ej (mask S w) u m):ej w u m:=by
 obtain⟨h1,h2,h3,h4,h5,h6,h7,h8,h9⟩:=h;exact⟨ea.fP h1 (fun _ _ h=>h.fP),h2.fP,h3.fP,h4.fP,h5.fP,ea.fP h6 (fun _ _ h=>h.fP),ea.fP h7 (fun _ _ h=>h.fP),ea.fP h8 (fun _ _ h=>h.fP),h9⟩
abbrev fW:=Option (List UInt8)
def fW.len:fW ->Nat
 | none=>0
 | some l=>l.length+1
def eg {α:Type} (get:iP α) (st:fW):fW:=(st.bind get).map (·.2)
def gU {α:Type} (get:iP α) (st:fW) (x:α):Prop:=∀y,st.bind get=some y ->x=y.1
theorem mq {α:Type} (get:iP α) (x:α):gU get none x:=fun _ h=>by simp at h
def jX {α β:Type} (a:iP α) (b:iP β):iP (α × β):=fun l=>(a l).bind fun x=>(b x.2).bind fun y=>some ((x.1,y.1),y.2)
def gO {α β:Type} (f:α ->β) (a:iP α):iP β:=fun l=>(a l).map fun x=>(f x.1,x.2)
theorem gM {α β:Type} (a:iP α) (b:iP β) (st:fW):eg (jX a b) st=eg b (eg a st):=by
 cases st with
 | none=>rfl
 | some l=>
  simp only [eg,jX,aw];cases h:a l with
  | none=>rfl
  | some x=>cases h2:b x.2 <;>simp [h2]
theorem ic {α β:Type} {a:iP α} {b:iP β} {st:fW} {x:α} {y:β} (h1:gU a st x) (h2:gU b (eg a st) y):gU (jX a b) st (x,y):=by
 intro z hz;cases st with
 | none=>simp at hz
 | some l=>
  simp only [jX,aw]at hz;cases h:a l with
  | none=>rw [h]at hz;simp at hz
  | some x'=>
   rw [h]at hz;simp only [aw]at hz;cases hb:b x'.2 with
   | none=>rw [hb]at hz;simp at hz
   | some y'=>
    rw [hb]at hz;simp only [aw,aX]at hz;have e1:=h1 x' (by simpa using h);have e2:=h2 y' (by simp [eg,h,hb]);rw [<- hz,e1,e2]
theorem fo {α β:Type} (f:α ->β) (a:iP α) (st:fW):eg (gO f a) st=eg a st:=by
 cases st with
 | none=>rfl
 | some l=>
  simp only [eg,gO,aw];cases a l <;>rfl
theorem fA {α β:Type} {f:α ->β} {a:iP α} {st:fW} {x:α} (h:gU a st x):gU (gO f a) st (f x):=by
 intro z hz;cases st with
 | none=>simp at hz
 | some l=>
  simp only [gO,aw]at hz;cases ha:a l with
  | none=>rw [ha]at hz;simp at hz
  | some y=>
   rw [ha]at hz;simp only [bF,aX]at hz;rw [<- hz,h y (by simpa using ha)]
def iD {α:Type} (get:iP α):Prop:=∀l y,get l=some y ->y.2.length < l.length
def oJ {α:Type} (get:iP α):Prop:=∀l y,get l=some y ->y.2.length <=l.length
theorem iD.lL {α:Type} {get:iP α} (h:iD get):oJ get:=fun l y hy=>Nat.le_of_lt (h l y hy)
theorem iD.seq {α β:Type} {a:iP α} {b:iP β} (ha:iD a) (hb:oJ b):iD (jX a b):=by
 intro l y hy;simp only [jX]at hy;cases h:a l with
 | none=>rw [h]at hy;simp at hy
 | some x=>
  rw [h]at hy;simp only [aw]at hy;cases h2:b x.2 with
  | none=>rw [h2]at hy;simp at hy
  | some z=>
   rw [h2]at hy;simp only [aw,aX]at hy;subst hy;exact Nat.lt_of_le_of_lt (hb _ _ h2) (ha _ _ h)
theorem iD.map {α β:Type} {f:α ->β} {a:iP α} (ha:iD a):iD (gO f a):=by
 intro l y hy;simp only [gO]at hy;cases h:a l with
 | none=>rw [h]at hy;simp at hy
 | some x=>
  rw [h]at hy;simp only [bF,aX]at hy;subst hy;exact ha _ _ h
theorem oJ.len {α:Type} {get:iP α} (h:oJ get) (st:fW):(eg get st).len <=st.len:=by
 cases st with
 | none=>simp [eg,fW.len]
 | some l=>
  simp only [eg,aw];cases hg:get l with
  | none=>simp [fW.len]
  | some y=>have:=h l y hg;simp only [bF,fW.len];omega
theorem iD.len {α:Type} {get:iP α} (h:iD get) (l:List UInt8):(eg get (some l)).len < fW.len (some l):=by
 simp only [eg,aw];cases hg:get l with
 | none=>simp [fW.len]
 | some y=>have:=h l y hg;simp only [bF,fW.len];omega
theorem kR:iD fQ:=by
 intro l y hy;unfold fQ at hy;split at hy
 ·rename_i h
  simp only [aX]at hy;subst hy;unfold ia at h;split at h
  ·rename_i h1
   exact absurd h h1
  ·rename_i h1
   have h2:=dA.1 h1;obtain⟨_,_,k1,k2,_⟩:=iY h2;have h3:(ia 32 l).2.1=(eY 32 l).1:=by
    unfold ia;rw [aC h1];split
    ·rfl
    ·rename_i h4
     rw [aC h4]at h;cases h
   simp only [bm,h3];omega
 ·cases hy
theorem ky:iD eX:=by
 intro l y hy;cases l with
 | nil=>cases hy
 | cons c l=>simp only [eX,aX]at hy;subst hy;simp
theorem lx:iD gH:=by
 intro l y hy;unfold gH at hy;split at hy
 ·simp only [aX]at hy;subst hy;simp
 ·simp only [aX]at hy;subst hy;simp
 ·cases hy
theorem zf {α:Type} {get:iP α} (h:iD get):∀n,oJ (rU get n)
 | 0=>fun l y hy=>by simp only [rU,aX]at hy;subst hy;exact ag _
 | n+1=>fun l y hy=>by
  simp only [rU]at hy;cases hg:get l with
  | none=>rw [hg]at hy;simp at hy
  | some x=>
   rw [hg]at hy;simp only [aw]at hy;cases hr:rU get n x.2 with
   | none=>rw [hr]at hy;simp at hy
   | some z=>
    rw [hr]at hy;simp only [aw,aX]at hy;subst hy;exact aW (show z.2.length <=x.2.length from zf h n _ _ hr) (Nat.le_of_lt (h _ _ hg))
theorem gY {α:Type} {get:iP α} (h:iD get):iD (fh get):=by
 intro l y hy;simp only [fh]at hy;cases hg:fQ l with
 | none=>rw [hg]at hy;simp at hy
 | some x=>
  rw [hg]at hy;simp only [aw]at hy;exact Nat.lt_of_le_of_lt (zf h _ _ _ hy) (kR _ _ hg)
theorem uB:oS=gO (fun x=>⟨x.2.1,x.2.2⟩) (jX eX (jX (fh gH) (fh gH))):=by
 funext l
 simp only [oS,gO,jX];cases h1:eX l with
 | none=>rfl
 | some c=>
  simp only [aw];cases h2:fh gH c.2 with
  | none=>rfl
  | some p=>
   simp only [aw];cases fh gH p.2 <;>rfl
theorem xg:uw=gO (fun x=>⟨x.1,x.2.1,x.2.2.2⟩) (jX jz (jX jz (jX eX uN))):=by
 funext l
 simp only [uw,gO,jX];cases h1:jz l with
 | none=>rfl
 | some a=>
  simp only [aw];cases h2:jz a.2 with
  | none=>rfl
  | some b=>
   simp only [aw];cases h3:eX b.2 with
   | none=>rfl
   | some c=>
    simp only [aw];cases uN c.2 <;>rfl
theorem tM:o8=gO (fun x=>⟨x.2.1 !=0,x.2.2⟩) (jX gH (jX eX gE)):=by
 funext l
 simp only [o8,gO,jX];cases h1:gH l with
 | none=>rfl
 | some a=>
  simp only [aw];cases h2:eX a.2 with
  | none=>rfl
  | some b=>
   simp only [aw];cases gE b.2 <;>rfl
theorem wV:tN=gO (fun x=>⟨x.1,x.2.2⟩) (jX jz (jX eX uN)):=by
 funext l
 simp only [tN,gO,jX];cases h1:jz l with
 | none=>rfl
 | some a=>
  simp only [aw];cases h2:eX a.2 with
  | none=>rfl
  | some b=>
   simp only [aw];cases uN b.2 <;>rfl
theorem pf:oU=gO (fun x=>⟨x.1,x.2⟩) (jX ji (fh uN)):=by
 funext l
 simp only [oU,gO,jX];cases h1:ji l with
 | none=>rfl
 | some a=>
  simp only [aw];cases fh uN a.2 <;>rfl
theorem wY:uD=gO (fun x=>⟨x.1,x.2⟩) (jX ji lY):=by
 funext l
 simp only [uD,gO,jX];cases h1:ji l with
 | none=>rfl
 | some a=>
  simp only [aw];cases lY a.2 <;>rfl
theorem qz:uN=gO (fun n:Nat=>(n:Int)) fQ:=by
 funext l
 simp only [uN,gO];cases fQ l <;>rfl
theorem sS:jz=gO bs lY:=by
 funext l
 simp only [jz,gO];cases lY l <;>rfl
theorem rI:ji=gO (fun x=>x.2.n) (jX eX gE):=by
 funext l
 simp only [ji,gO,jX];cases h1:eX l with
 | none=>rfl
 | some a=>
  simp only [aw];cases gE a.2 <;>rfl
theorem rN:kS=gO (fun x=>x.2) (jX eX fZ):=by
 funext l
 simp only [kS,gO,jX];cases h1:eX l with
 | none=>rfl
 | some a=>
  simp only [aw];cases fZ a.2 <;>rfl
structure IR where
 pos:Nat
 err:Int
def IR.rest (L:List UInt8) (s:IR):fW:=if s.err=0 then some (L.drop s.pos)else none
def IR.byte (L:List UInt8) (s:IR):Nat × IR:=
 if s.err=0 then(match L[s.pos]? with | some c=>(c.toNat,⟨s.pos+1,0⟩) | none=>(0,⟨s.pos,2⟩))else(0,s)
def IR.jQ (L:List UInt8) (lim:Nat) (s:IR):Nat × IR:=
 if s.err=0 then(if(ia 32 (L.drop s.pos)).2.2=0 then(if lim < (ia 32 (L.drop s.pos)).1 then(0,⟨s.pos,1⟩)else((ia 32 (L.drop s.pos)).1,⟨s.pos+(ia 32 (L.drop s.pos)).2.1,0⟩))else(0,⟨s.pos,(ia 32 (L.drop s.pos)).2.2⟩))else(0,s)
def IR.pW (L:List UInt8) (bits:Int) (s:IR):Int × IR:=((jo bits (L.drop s.pos)).1,⟨s.pos+(jo bits (L.drop s.pos)).2.1,(jo bits (L.drop s.pos)).2.2⟩)
def IR.zero (L:List UInt8) (s:IR):IR:=if(s.byte L).1=0 then(s.byte L).2 else⟨(s.byte L).2.pos,1⟩
def IR.kind (L:List UInt8) (s:IR):Nat × IR:=
 if(s.byte L).1=64 then(0,(s.byte L).2)else if(s.byte L).1=127 then(1,(s.byte L).2)else if(s.byte L).1=126 then(2,(s.byte L).2)
 else(0,if(s.byte L).2.err=0 then⟨(s.byte L).2.pos,1⟩else(s.byte L).2)
def IR.ok (L:List UInt8) (s:IR):Prop:=s.pos <=L.length/\0 <=s.err/\s.err <=12
theorem IR.vW (L:List UInt8) (s:IR):(s.byte L).2.rest L=eg eX (s.rest L):=by
 unfold IR.byte IR.rest;by_cases h:s.err=0
 ·simp only [h,cY]
  cases hc:L[s.pos]? with
  | none=>
   have:L.drop s.pos=[]:=by rw [List.drop_eq_nil_iff];exact List.getElem?_eq_none_iff.1 hc
   simp [this,eg,eX]
  | some c=>
   obtain⟨Kq,rfl⟩:=aL.1 hc;rw [cA Kq];rfl
 ·simp [h,eg]
theorem IR.zp (L:List UInt8) (s:IR):∀y,(s.rest L).bind eX=some y ->(s.byte L).1=y.1.toNat:=by
 unfold IR.byte IR.rest;intro y hy;by_cases h:s.err=0
 ·simp only [h,cY]at hy⊢
  cases hc:L[s.pos]? with
  | none=>
   have:L.drop s.pos=[]:=by rw [List.drop_eq_nil_iff];exact List.getElem?_eq_none_iff.1 hc
   rw [this]at hy;simp [eX]at hy
  | some c=>
   obtain⟨Kq,rfl⟩:=aL.1 hc;rw [cA Kq]at hy;simp only [aw,eX,aX]at hy;rw [<- hy]
 ·simp [h]at hy
theorem IR.xw {L:List UInt8} {s:IR} (h:s.ok L):(s.byte L).2.ok L:=by
 obtain⟨h1,h2,h3⟩:=h;unfold IR.byte;split
 ·split
  ·rename_i c hc
   have:=(aL.1 hc).1;exact⟨by simp only;omega,by simp,by simp⟩
  ·exact⟨h1,by simp,by simp⟩
 ·exact⟨h1,h2,h3⟩
theorem D3 (bits:Int) (l:List UInt8):0 <=(ia bits l).2.2/\(ia bits l).2.2 <=12:=by
 have hl:0 <=(eY bits l).2/\(eY bits l).2 <=12:=by
  unfold eY
  repeat' split
  all_goals simp
 unfold ia;split
 ·exact hl
 ·split <;>simp
theorem Fv (bits:Int) (l:List UInt8):0 <=(jo bits l).2.2/\(jo bits l).2.2 <=12:=by
 have hl:0 <=(eY bits l).2/\(eY bits l).2 <=12:=by
  unfold eY
  repeat' split
  all_goals simp
 unfold jo;split
 ·exact hl
 ·split <;>simp
theorem wZ (bits:Int) (l:List UInt8):(ia bits l).2.1 <=l.length:=by
 unfold ia;split
 ·simp
 ·rename_i h
  obtain⟨_,_,k1,k2,_⟩:=iY (dA.1 h);split
  ·simp only;omega
  ·simp
theorem BJ (bits:Int) (l:List UInt8):(jo bits l).2.1 <=l.length:=by
 unfold jo;split
 ·simp
 ·rename_i h
  obtain⟨_,_,k1,k2,_⟩:=iY (dA.1 h);split
  ·simp only;omega
  ·simp
theorem IR.rh (L:List UInt8) (lim:Nat) (s:IR):(s.jQ L lim).2.rest L=eg (lf lim) (s.rest L):=by
 unfold IR.jQ IR.rest;by_cases h:s.err=0
 ·simp only [h,cY]
  by_cases h1:(ia 32 (L.drop s.pos)).2.2=0
  ·simp only [h1,cY]
   by_cases h2:lim < (ia 32 (L.drop s.pos)).1
   ·rw [aJ h2]
    simp [eg,lf,h1,Nat.not_le.2 h2]
   ·rw [aC h2]
    simp [eg,lf,h1,Nat.not_lt.1 h2,List.drop_drop]
  ·simp only [h1,if_false]
   simp [eg,lf,h1]
 ·simp [h,eg]
theorem IR.sO (L:List UInt8) (lim:Nat) (s:IR):gU (lf lim) (s.rest L) (s.jQ L lim).1:=by
 unfold IR.jQ IR.rest;intro y hy;by_cases h:s.err=0
 ·simp only [h,cY]at hy⊢
  simp only [aw,lf]at hy;split at hy
  ·rename_i h1
   simp only [h1.1,cY,aC (Nat.not_lt.2 h1.2)];simp only [aX]at hy;rw [<- hy]
  ·cases hy
 ·simp [h]at hy
theorem IR.Ih {L:List UInt8} {lim:Nat} {s:IR} (h:s.ok L):(s.jQ L lim).2.ok L:=by
 obtain⟨h1,h2,h3⟩:=h;have e1:=D3 32 (L.drop s.pos);have e2:=wZ 32 (L.drop s.pos);rw [bm]at e2;unfold IR.jQ;split
 ·split
  ·split
   ·exact⟨h1,by simp,by simp⟩
   ·exact⟨by simp only;omega,by simp,by simp⟩
  ·exact⟨h1,e1⟩
 ·exact⟨h1,h2,h3⟩
theorem IR.Ao (L:List UInt8) (lim:Nat) (s:IR):(s.jQ L lim).1 <=lim:=by
 unfold IR.jQ;split
 ·split
  ·split
   ·simp
   ·rename_i h;exact Nat.not_lt.1 h
  ·simp
 ·simp
theorem IR.xT (L:List UInt8) (bits:Int) (s:IR) (h:s.err=0):(s.pW L bits).2.rest L=eg (AR bits) (s.rest L):=by
 unfold IR.pW IR.rest;simp only [h,cY];by_cases h1:(jo bits (L.drop s.pos)).2.2=0
 ·simp [h1,eg,AR,List.drop_drop]
 ·simp [h1,eg,AR]
theorem IR.BN (L:List UInt8) (bits:Int) (s:IR):gU (AR bits) (s.rest L) (s.pW L bits).1:=by
 unfold IR.pW IR.rest;intro y hy;split at hy
 ·simp only [aw,AR]at hy
  split at hy
  ·simp only [aX]at hy
   rw [<- hy]
  ·cases hy
 ·simp at hy
theorem IR.Ip {L:List UInt8} {bits:Int} {s:IR} (h:s.ok L):(s.pW L bits).2.ok L:=by
 obtain⟨h1,h2,h3⟩:=h;have e1:=Fv bits (L.drop s.pos);have e2:=BJ bits (L.drop s.pos);rw [bm]at e2;exact⟨by simp only [IR.pW];omega,e1⟩
theorem FF (l:List UInt8):oO l=(eX l).bind fun c=>if c.1.toNat=0 then some c.2 else none:=by
 cases l with
 | nil=>rfl
 | cons c l=>
  simp only [eX,aw];by_cases h:c=0
  ·subst h
   rfl
  ·have:c.toNat≠0:=fun g=>h (dv.1 (by simpa using g))
   rw [aC this];unfold oO;split
   ·rename_i heq
    injection heq with e1 e2;exact absurd e1 h
   ·rfl
theorem IR.wo (L:List UInt8) (s:IR):(s.zero L).rest L=(s.rest L).bind oO:=by
 have h1:=IR.vW L s;have h2:=IR.zp L s;have hz:(s.rest L).bind oO=((s.rest L).bind eX).bind fun c=>if c.1.toNat=0 then some c.2 else none:=by
  cases s.rest L with
  | none=>rfl
  | some l=>simp only [aw,FF]
 rw [hz];unfold eg at h1;unfold IR.zero;cases hb:(s.rest L).bind eX with
 | none=>
  rw [hb]at h1;simp only [Option.map_none]at h1;simp only [Option.bind_none];split
  ·exact h1
  ·simp [IR.rest]
 | some y=>
  rw [hb]at h1;have e:=h2 y hb;rw [e];simp only [bF]at h1;simp only [aw];split
  ·exact h1
  ·simp [IR.rest]
theorem IR.GB {L:List UInt8} {s:IR} (h:s.ok L):(s.zero L).ok L:=by
 have:=IR.xw h;unfold IR.zero;split
 ·exact this
 ·exact⟨this.1,by simp,by simp⟩
theorem Fg (l:List UInt8):su l=(eX l).bind fun c=>if c.1.toNat=64 then some (0,c.2)else if c.1.toNat=127 then some (1,c.2)else if c.1.toNat=126 then some (2,c.2)else none:=by
 cases l with
 | nil=>rfl
 | cons c l=>
  simp only [eX,aw];have key:∀k:UInt8,c.toNat=k.toNat ->c=k:=fun k h=>dv.1 h;unfold su;split
  ·rename_i heq;injection heq with e1 e2;subst e1 e2;rfl
  ·rename_i heq;injection heq with e1 e2;subst e1 e2;rfl
  ·rename_i heq;injection heq with e1 e2;subst e1 e2;rfl
  ·rename_i h1 h2 h3
   rw [aC (fun g=>h1 l (by rw [key 0x40 g])),aC (fun g=>h2 l (by rw [key 0x7f g])),aC (fun g=>h3 l (by rw [key 0x7e g]))]
theorem IR.Cw (L:List UInt8) (s:IR):(s.kind L).2.rest L=eg su (s.rest L)/\∀y,(s.rest L).bind su=some y ->((s.kind L).1:Int)=y.1:=by
 have h1:=IR.vW L s;have h2:=IR.zp L s;have hz:(s.rest L).bind su=((s.rest L).bind eX).bind fun c=>if c.1.toNat=64 then some (0,c.2)else if c.1.toNat=127 then some (1,c.2)else if c.1.toNat=126 then some (2,c.2)else none:=by
  cases s.rest L with
  | none=>rfl
  | some l=>simp only [aw,Fg]
 unfold eg at h1⊢;rw [hz];unfold IR.kind;cases hb:(s.rest L).bind eX with
 | none=>
  rw [hb]at h1;simp only [Option.map_none]at h1;simp only [Option.bind_none,Option.map_none];have he:¬ (s.byte L).2.err=0:=fun g=>by rw [IR.rest,aJ g]at h1;cases h1
  refine⟨?_,fun y hy=>by cases hy⟩;split
  ·exact h1
  ·split
   ·exact h1
   ·split
    ·exact h1
    ·simp only
     exact h1
 | some y=>
  rw [hb]at h1;have e:=h2 y hb;rw [e];simp only [bF]at h1;simp only [aw];split
  ·exact⟨h1,fun z hz=>by injection hz with hz;rw [<- hz];rfl⟩
  ·split
   ·exact⟨h1,fun z hz=>by injection hz with hz;rw [<- hz];rfl⟩
   ·split
    ·exact⟨h1,fun z hz=>by injection hz with hz;rw [<- hz];rfl⟩
    ·refine⟨?_,fun z hz=>by cases hz⟩
     simp only [Option.map_none];split
     ·simp [IR.rest]
     ·rename_i he
      simp [IR.rest,he]
theorem IR.GI {L:List UInt8} {s:IR} (h:s.ok L):(s.kind L).2.ok L:=by
 have:=IR.xw h;unfold IR.kind;split
 ·exact this
 ·split
  ·exact this
  ·split
   ·exact this
   ·simp only
    split
    ·exact⟨this.1,by simp,by simp⟩
    ·exact this
def IR.lZ (L:List UInt8):Nat ->IR ->List Nat × IR
 | 0,s=>([],s)
 | n+1,s=>((s.jQ L 1000).1::(IR.lZ L n (s.jQ L 1000).2).1,(IR.lZ L n (s.jQ L 1000).2).2)
theorem IR.vJ (L:List UInt8):∀(n:Nat) (s:IR),(s.lZ L n).2.rest L=eg (oV 1000 n) (s.rest L)/\gU (oV 1000 n) (s.rest L) ((s.lZ L n).1.map fun x:Nat=>(x:Int))
 | 0,s=>by
  refine⟨?_,fun y hy=>?_⟩
  ·simp only [IR.lZ,eg]
   cases s.rest L <;>rfl
  ·cases h:s.rest L with
   | none=>rw [h]at hy;simp at hy
   | some l=>rw [h]at hy;simp only [aw,oV,aX]at hy;rw [<- hy];rfl
 | n+1,s=>by
  have h1:=IR.rh L 1000 s;have h2:=IR.sO L 1000 s;obtain⟨h3,h4⟩:=IR.vJ L n (s.jQ L 1000).2;rw [h1]at h3 h4;simp only [IR.lZ];rw [h3];cases hr:s.rest L with
  | none=>exact⟨rfl,fun y hy=>by simp at hy⟩
  | some l=>
   rw [hr]at h2 h4;simp only [eg,aw,oV]at h4⊢;cases ha:lf 1000 l with
   | none=>exact⟨rfl,fun y hy=>by simp [ha]at hy⟩
   | some a=>
    have e1:=h2 a (by simpa using ha);rw [ha]at h4;simp only [bF,aw];cases hb:oV 1000 n a.2 with
    | none=>exact⟨rfl,fun y hy=>by simp [ha,hb]at hy⟩
    | some b=>
     have e2:=h4 b (by simpa using hb);refine⟨rfl,fun y hy=>?_⟩;simp only [aw,ha,hb,aX]at hy;rw [<- hy,bC,e1,e2]
def IR.get (L:List UInt8) (c:Nat) (s:IR):eK × IR:=
 match fG c with
 | 2=>(⟨c,(s.kind L).1,0,[]⟩,(s.kind L).2)
 | 3=>(⟨c,(s.jQ L 1000).1,0,[]⟩,(s.jQ L 1000).2)
 | 4=>(⟨c,(((s.jQ L 50).2.lZ L (s.jQ L 50).1).2.jQ L 1000).1,0,((s.jQ L 50).2.lZ L (s.jQ L 50).1).1.map fun x:Nat=>(x:Int)⟩,(((s.jQ L 50).2.lZ L (s.jQ L 50).1).2.jQ L 1000).2)
 | 5=>(⟨c,(s.jQ L 1000).1,0,[]⟩,(s.jQ L 1000).2.zero L)
 | 6=>(⟨c,(s.jQ L 3).1,((s.jQ L 3).2.jQ L 4294967295).1,[]⟩,((s.jQ L 3).2.jQ L 4294967295).2)
 | 7=>(⟨c,0,0,[]⟩,s.zero L)
 | 8=>(⟨c,(s.pW L 32).1,0,[]⟩,(s.pW L 32).2)
 | 9=>(⟨c,(s.pW L 64).1,0,[]⟩,(s.pW L 64).2)
 | _=>(⟨c,0,0,[]⟩,s)
theorem IR.rA (c:UInt8) (l:List UInt8) (hf:fG c.toNat≠0):
  (IR.get (c::l) c.toNat ⟨1,0⟩).2.rest (c::l)=(gp (c::l)).map (·.2)/\∀y,gp (c::l)=some y ->(IR.get (c::l) c.toNat ⟨1,0⟩).1=y.1:=by
 have h0:IR.rest (c::l) ⟨1,0⟩=some l:=rfl;have Qx:=nM c.toNat;have hu:=fun lim=>IR.rh (c::l) lim ⟨1,0⟩;have hw:=fun lim=>IR.sO (c::l) lim ⟨1,0⟩;simp only [h0,eg,aw]at hu;simp only [h0,gU,aw]at hw;unfold IR.get gp;dsimp only;generalize hff:fG (c.toNat:Int)=f at*;rcases(show f=1\/f=2\/f=3\/f=4\/f=5\/f=6\/f=7\/f=8\/f=9 by omega)with rfl | rfl | rfl | rfl | rfl | rfl | rfl | rfl | rfl
 ·exact⟨rfl,fun y hy=>by injection hy with hy;rw [<- hy];rfl⟩
 ·obtain⟨h1,h2⟩:=IR.Cw (c::l) ⟨1,0⟩
  simp only [h0,eg,aw]at h1 h2;simp only [h1];cases hk:su l with
  | none=>exact⟨rfl,fun y hy=>by cases hy⟩
  | some k=>exact⟨rfl,fun y hy=>by simp only [aw,aX]at hy;rw [<- hy,h2 k hk]⟩
 ·simp only [hu]
  cases hk:lf 1000 l with
  | none=>exact⟨rfl,fun y hy=>by cases hy⟩
  | some k=>exact⟨rfl,fun y hy=>by simp only [aw,aX]at hy;rw [<- hy,hw 1000 k hk]⟩
 ·simp only
  generalize LV:IR.jQ (c::l) 50 ⟨1,0⟩=s1;have a1:=hu 50;have a2:=hw 50;rw [LV]at a1 a2;obtain⟨b1,b2⟩:=IR.vJ (c::l) s1.1 s1.2;generalize Ku:s1.2.lZ (c::l) s1.1=s2 at*;have c1:=IR.rh (c::l) 1000 s2.2;have c2:=IR.sO (c::l) 1000 s2.2;generalize LS:s2.2.jQ (c::l) 1000=s3 at*;rw [b1]at c1 c2;rw [a1]at b1 b2 c1 c2;rw [c1];cases h1:lf 50 l with
  | none=>exact⟨rfl,fun y hy=>by cases hy⟩
  | some n=>
   have e1:=a2 n h1;rw [h1]at b2 c2;simp only [bF,aw,eg,e1]at b2 c2⊢;cases h2:oV 1000 n.1 n.2 with
   | none=>exact⟨rfl,fun y hy=>by cases hy⟩
   | some t=>
    have e2:=b2 t (by simpa using h2);rw [h2]at c2;simp only [bF,aw]at c2⊢;cases h3:lf 1000 t.2 with
    | none=>exact⟨rfl,fun y hy=>by cases hy⟩
    | some x=>
     have e3:=c2 x (by simpa using h3);exact⟨rfl,fun y hy=>by simp only [aw,aX]at hy;rw [<- hy,e3,e2]⟩
 ·simp only [IR.wo,hu]
  cases hk:lf 1000 l with
  | none=>exact⟨rfl,fun y hy=>by cases hy⟩
  | some k=>
   simp only [bF,aw];cases hz:oO k.2 with
   | none=>exact⟨rfl,fun y hy=>by cases hy⟩
   | some r=>exact⟨rfl,fun y hy=>by simp only [aw,aX]at hy;rw [<- hy,hw 1000 k hk]⟩
 ·have c1:=IR.rh (c::l) 4294967295 (IR.jQ (c::l) 3 ⟨1,0⟩).2
  have c2:=IR.sO (c::l) 4294967295 (IR.jQ (c::l) 3 ⟨1,0⟩).2;rw [hu]at c1 c2;simp only [c1];cases hk:lf 3 l with
  | none=>exact⟨rfl,fun y hy=>by cases hy⟩
  | some k=>
   rw [hk]at c2;simp only [bF,aw,eg]at c2⊢;cases hz:lf 4294967295 k.2 with
   | none=>exact⟨rfl,fun y hy=>by cases hy⟩
   | some r=>exact⟨rfl,fun y hy=>by simp only [aw,aX]at hy;rw [<- hy,hw 3 k hk,c2 r (by simpa using hz)]⟩
 ·simp only [IR.wo,h0,aw]
  cases hz:oO l with
  | none=>exact⟨rfl,fun y hy=>by cases hy⟩
  | some r=>exact⟨rfl,fun y hy=>by simp only [aw,aX]at hy;rw [<- hy]⟩
 ·have c1:=IR.xT (c::l) 32 ⟨1,0⟩ rfl
  have c2:=IR.BN (c::l) 32 ⟨1,0⟩;simp only [h0,eg,aw]at c1;simp only [h0,gU,aw]at c2;simp only [c1];cases hk:AR 32 l with
  | none=>exact⟨rfl,fun y hy=>by cases hy⟩
  | some k=>exact⟨rfl,fun y hy=>by simp only [aw,aX]at hy;rw [<- hy,c2 k hk]⟩
 ·have c1:=IR.xT (c::l) 64 ⟨1,0⟩ rfl
  have c2:=IR.BN (c::l) 64 ⟨1,0⟩;simp only [h0,eg,aw]at c1;simp only [h0,gU,aw]at c2;simp only [c1];cases hk:AR 64 l with
  | none=>exact⟨rfl,fun y hy=>by cases hy⟩
  | some k=>exact⟨rfl,fun y hy=>by simp only [aw,aX]at hy;rw [<- hy,c2 k hk]⟩
theorem iE (n a b:Int) (w:World):Calls prog 134 #[.int .i64 n, .int .i64 a, .int .i64 b] w (et (lG n a b) w):=by
 by_cases q0:a <=n;rotate_left
 ·have f0:decide (a <=n)=false:=aA q0
  have HB:=V (show lG n a b=false by rw [lG,f0];rfl);go_enter func134,ntmps134;go_wp2_with fail;go_ret;exact⟨by rw [HB.out];rfl,an _ _⟩
 have f0:decide (a <=n)=true:=az q0;by_cases q1:n <=b
 ·have f1:decide (n <=b)=true:=az q1
  have HB:=V (show lG n a b=true by rw [lG,f0,f1];rfl);go_enter func134,ntmps134;go_wp2_with fail;go_ret;exact⟨by rw [HB.out];rfl,an _ _⟩
 ·have f1:decide (n <=b)=false:=aA q1
  have HB:=V (show lG n a b=false by rw [lG,f0,f1];rfl);go_enter func134,ntmps134;go_wp2_with fail;go_ret;exact⟨by rw [HB.out];rfl,an _ _⟩
def Jb (op:Int) (w:World) (e:Ending) (w':World):Prop:=e= .returned (.tuple #[.int .i64 (sw op).1, .int .i64 (sw op).2])/\Below w.heap.size w w'
theorem qv (op:Int) (w:World):Calls prog 133 #[.int .i64 op] w (Jb op w):=by
 have hb:=an w.heap.size w;go_enter func133,ntmps133;go_wp2_with fail;refine(iE op 69 79 _).mono ?_;rintro x w1 ⟨rfl,KF⟩;have hb:=dW hb KF;clear KF;cases h1:lG op 69 79
 ·have H1:=V h1
  clear h1;go_wp2_with fail;refine(iE op 103 120 _).mono ?_;rintro x w2 ⟨rfl,KF⟩;have hb:=dW hb KF;clear KF;cases h2:lG op 103 120
  ·have H2:=V h2
   clear h2;go_wp2_with fail;refine(iE op 80 90 _).mono ?_;rintro x w3 ⟨rfl,KF⟩;have hb:=dW hb KF;clear KF;cases h3:lG op 80 90
   ·have H3:=V h3
    clear h3;go_wp2_with fail;refine(iE op 121 138 _).mono ?_;rintro x w4 ⟨rfl,KF⟩;have hb:=dW hb KF;clear KF;cases h4:lG op 121 138
    ·have H4:=V h4
     clear h4;go_wp2_with fail
     go_ret2
     exact⟨by rw [sw,H1.out,H2.out,H3.out,H4.out];rfl,hb⟩
    ·obtain⟨g1,g2⟩:=jJ.1 h4
     have H4:=V h4;clear h4;go_wp2_with fail
     go_ret2
     exact⟨by rw [sw,H1.out,H2.out,H3.out,H4.out];rfl,hb⟩
   ·obtain⟨g1,g2⟩:=jJ.1 h3
    have H3:=V h3;clear h3;go_wp2_with fail
    go_ret2
    exact⟨by rw [sw,H1.out,H2.out,H3.out];rfl,hb⟩
  ·have H2:=V h2
   clear h2;go_wp2_with fail
   go_ret2
   exact⟨by rw [sw,H1.out,H2.out];rfl,hb⟩
 ·have H1:=V h1
  clear h1;go_wp2_with fail
  go_ret2
  exact⟨by rw [sw,H1.out];rfl,hb⟩
def Fu (op:Int) (w:World) (e:Ending) (w':World):Prop:=
 ∃v,e= .returned (.tuple #[v, .int .i64 (eU op).2.1, .bool (eU op).2.2])/\ee 1 eZ w' v (eU op).1/\Below w.heap.size w w'
theorem lu (w:World) (x:Int) (t:TypeId):ee 1 eZ (w.alloc (.cells #[.int .i64 x] t)) (.slice (some ⟨w.heap.size,0,none⟩) 1 1) [x]:=by
 refine⟨_,1,rfl,ag _,by simp [maxLen],fun i y hy=>⟨w.heap.size,0,rfl,by simp,fun j u hu=>?_⟩⟩;rw [bP]
 match i,hy with
 | 0,hy=>
  simp at hy;subst hy
  match j,hu with
  | 0,hu=>simp [eZ]at hu;subst hu;rfl
  | j+1,hu=>simp [eZ]at hu
 | i+1,hy=>simp at hy
theorem Dl (op:Int) (w:World):Calls prog 86 #[.int .i64 op] w (Fu op w):=by
 have hb:=an w.heap.size w;have MB:∀w1:World,Below w1.heap.size w1 w1:=fun w1=>an _ _;by_cases q1:op=167
 ·subst q1
  go_enter func86,ntmps86;go_wp2_with fail
  go_ret3
  exact⟨_,rfl,lu w 2 _,hb.alloc (ag _) _⟩
 have f1:(op==167)=false:=dQ q1;by_cases q2:op=172
 ·subst q2
  go_enter func86,ntmps86;go_wp2_with fail
  go_ret3
  exact⟨_,rfl,lu w 1 _,hb.alloc (ag _) _⟩
 have f2:(op==172)=false:=dQ q2;by_cases q3:op=173
 ·subst q3
  go_enter func86,ntmps86;go_wp2_with fail
  go_ret3
  exact⟨_,rfl,lu w 1 _,hb.alloc (ag _) _⟩
 have f3:(op==173)=false:=dQ q3;have HQ:Hid (op≠167/\op≠172/\op≠173):=V ⟨q1,q2,q3⟩;clear q1 q2 q3 MB;go_enter func86,ntmps86;go_wp2_with fail;refine(qv op _).mono ?_;rintro x w1 ⟨rfl,Kw⟩;obtain⟨k,hk⟩:∃k,(sw op).1=k:=⟨_,rfl⟩;obtain⟨l,hl⟩:∃l,(sw op).2=l:=⟨_,rfl⟩;rw [hk,hl];have HK:=V hk;have HL:=V hl;replace hb:=dW hb Kw;clear hk hl Kw f1 f2 f3;by_cases q4:k=0
 ·have f4:(k==0)=true:=eF q4
  have H4:=V q4;clear q4;go_wp2_with fail
  go_ret3
  have:eU op=([],0,false):=by rw [eU,aC HQ.out.1,aC HQ.out.2.1,aC HQ.out.2.2,HK.out,aJ H4.out]
  exact⟨_,by rw [this];rfl,by rw [this];exact ee.nil _,hb⟩
 have f4:(k==0)=false:=dQ q4;have H4:=V (show k≠0 from q4);clear q4;by_cases q5:l=69
 ·have f5:(l==69)=true:=eF q5
  have H5:=V q5;clear q5;go_wp2_with fail
  go_ret3
  have:eU op=([k],1,true):=by rw [eU,aC HQ.out.1,aC HQ.out.2.1,aC HQ.out.2.2,HK.out,HL.out,aC H4.out,aJ H5.out]
  exact⟨_,by rw [this];rfl,by rw [this];exact lu w1 k _,hb.alloc hb.size _⟩
 have f5:(l==69)=false:=dQ q5;have H5:=V (show l≠69 from q5);clear q5;go_wp2_with fail;refine(iE l 70 79 _).mono ?_;rintro x w2 ⟨rfl,KF⟩;replace hb:=dW hb KF;clear KF f4 f5;cases h6:lG l 70 79 with
 | true=>
  have H6:=V h6;clear h6;go_wp2_with fail
  go_ret3
  have:eU op=([k,k],1,true):=by rw [eU,aC HQ.out.1,aC HQ.out.2.1,aC HQ.out.2.2,HK.out,HL.out,aC H4.out,aC H5.out,H6.out];rfl
  exact⟨_,by rw [this];rfl,by rw [this];exact pD w2 k k _,hb.alloc hb.size _⟩
 | false=>
  have H6:=V h6;clear h6;go_wp2_with fail;refine(iE l 103 105 _).mono ?_;rintro x w3 ⟨rfl,KF⟩;replace hb:=dW hb KF;clear KF;cases h7:lG l 103 105 with
  | true=>
   have H7:=V h7;clear h7;go_wp2_with fail
   go_ret3
   have:eU op=([k],k,true):=by rw [eU,aC HQ.out.1,aC HQ.out.2.1,aC HQ.out.2.2,HK.out,HL.out,aC H4.out,aC H5.out,H6.out,H7.out];rfl
   exact⟨_,by rw [this];rfl,by rw [this];exact lu w3 k _,hb.alloc hb.size _⟩
  | false=>
   have H7:=V h7;clear h7;go_wp2_with fail
   go_ret3
   have:eU op=([k,k],k,true):=by rw [eU,aC HQ.out.1,aC HQ.out.2.1,aC HQ.out.2.2,HK.out,HL.out,aC H4.out,aC H5.out,H6.out,H7.out];rfl
   exact⟨_,by rw [this];rfl,by rw [this];exact pD w3 k k _,hb.alloc hb.size _⟩
def Bv (op:Int) (w:World) (e:Ending) (w':World):Prop:=e= .returned (.int .i64 (fG op))/\Below w.heap.size w w'
theorem Dy (w:World):∀op∈([0,1,5,11,15,26,27,2,3,4,12,13,16,32,33,34,35,36,14,17,40,41,44,45,54,55,58,63,64,65,66]:List Int),Calls prog 150 #[.int .i64 op] w (Bv op w):=by
 intro op h;simp only [bJ,bO,cS]at h;rcases h with rfl | rfl | rfl | rfl | rfl | rfl | rfl | rfl | rfl | rfl | rfl | rfl | rfl | rfl | rfl | rfl | rfl | rfl | rfl | rfl | rfl | rfl | rfl | rfl | rfl | rfl | rfl | rfl | rfl | rfl | rfl
 all_goals
  go_enter func150,ntmps150;go_wp2_with fail;go_ret;exact⟨rfl,an _ _⟩
theorem tc (op:Int) (w:World):Calls prog 150 #[.int .i64 op] w (Bv op w):=by
 by_cases h:op∈([0,1,5,11,15,26,27,2,3,4,12,13,16,32,33,34,35,36,14,17,40,41,44,45,54,55,58,63,64,65,66]:List Int)
 ·exact Dy w op h
 simp only [bJ,bO,cS,not_or]at h;obtain⟨q0,q1,q5,N8,q15,q26,q27,q2,q3,q4,q12,q13,q16,q32,q33,q34,q35,q36,q14,q17,q40,q41,q44,q45,q54,q55,q58,q63,q64,q65,q66⟩:=h;have HF:Hid (fG op=if(eU op).2.2=true then 1 else 0):=V (by
  unfold fG;rw [aC (by omega),aC (by omega),aC (by omega),aC q14,aC q17,aC (by omega),aC (by omega),aC q65,aC q66])
 replace q0:=dQ q0;replace q1:=dQ q1;replace q5:=dQ q5;replace N8:=dQ N8;replace q15:=dQ q15;replace q26:=dQ q26;replace q27:=dQ q27;replace q2:=dQ q2;replace q3:=dQ q3;replace q4:=dQ q4;replace q12:=dQ q12;replace q13:=dQ q13;replace q16:=dQ q16;replace q32:=dQ q32;replace q33:=dQ q33;replace q34:=dQ q34;replace q35:=dQ q35;replace q36:=dQ q36;replace q14:=dQ q14;replace q17:=dQ q17;replace q40:=dQ q40;replace q41:=dQ q41;replace q44:=dQ q44;replace q45:=dQ q45;replace q54:=dQ q54;replace q55:=dQ q55;replace q58:=dQ q58;replace q63:=dQ q63;replace q64:=dQ q64;replace q65:=dQ q65;replace q66:=dQ q66;go_enter func150,ntmps150;go_wp2_with fail;refine(Dl op _).mono ?_;rintro x w1 ⟨v,rfl,-,hb⟩;clear q0 q1 q5 N8 q15 q26 q27 q2 q3 q4 q12 q13 q16 q32 q33 q34 q35 q36 q14 q17 q40 q41 q44 q45 q54 q55 q58 q63 q64 q65 q66;cases hk:(eU op).2.2 with
 | true=>
  have HK:=V hk;clear hk;go_wp2_with fail;go_ret;exact⟨by rw [HF.out,aJ HK.out];rfl,hb⟩
 | false=>
  have HK:=V hk;clear hk;go_wp2_with fail;go_ret;exact⟨by rw [HF.out,aC (by rw [HK.out];decide)];rfl,hb⟩
theorem jW (n a b:Int) (w:World):Calls prog 151 #[.int .i64 n, .int .i64 a, .int .i64 b] w (et (lG n a b) w):=by
 by_cases q0:a <=n;rotate_left
 ·have f0:decide (a <=n)=false:=aA q0
  have HB:=V (show lG n a b=false by rw [lG,f0];rfl);go_enter func151,ntmps151;go_wp2_with fail;go_ret;exact⟨by rw [HB.out];rfl,an _ _⟩
 have f0:decide (a <=n)=true:=az q0;by_cases q1:n <=b
 ·have f1:decide (n <=b)=true:=az q1
  have HB:=V (show lG n a b=true by rw [lG,f0,f1];rfl);go_enter func151,ntmps151;go_wp2_with fail;go_ret;exact⟨by rw [HB.out];rfl,an _ _⟩
 ·have f1:decide (n <=b)=false:=aA q1
  have HB:=V (show lG n a b=false by rw [lG,f0,f1];rfl);go_enter func151,ntmps151;go_wp2_with fail;go_ret;exact⟨by rw [HB.out];rfl,an _ _⟩
theorem nk (n:Int) (w:World):Calls prog 152 #[.int .i64 n] w (et (lG n 0 1000) w):=by
 go_enter func152,ntmps152;go_wp2_with fail;refine(jW n 0 1000 _).mono ?_;rintro x w1 ⟨rfl,hb⟩;go_wp2_with fail;go_ret;exact⟨rfl,hb⟩
theorem ff (w:World) (X i:Nat) (v:Value):dS (fun k=>k=X) w (w.setCell ⟨X,i,none⟩ v):=⟨rfl,rfl,rfl,by simp,fun k _ hk=>cN w ⟨X,i,none⟩ v k hk⟩
def sB (w0 w:World) (R:Nat) (a:Option Addr) (cap:Nat) (L:List UInt8) (s:IR):Prop:=
 eE w R #[.slice a L.length cap, .int .i64 s.pos, .int .i64 s.err] 347/\eI w0 (.slice a L.length cap) L/\Below w0.heap.size w0 w/\w0.heap.size <=R/\s.ok L
def yR (w0 w:World) (R:Nat) (a:Option Addr) (cap:Nat) (L:List UInt8) (v:Value) (s:IR) (e:Ending) (w':World):Prop:=
 e= .returned v/\sB w0 w' R a cap L s/\dS (fun k=>k=R) w w'
theorem sB.keeps {w0 w w':World} {R:Nat} {a:Option Addr} {cap:Nat} {L:List UInt8} {s:IR} {S:Nat ->Prop} (h:sB w0 w R a cap L s) (hk:dS S w w') (hR:¬ S R) (hS:∀i,S i ->w0.heap.size <=i):sB w0 w' R a cap L s:=
 ⟨h.1.keeps hk hR,h.2.1,h.2.2.1.trans (hk.below h.2.2.1.size hS),h.2.2.2⟩
theorem sB.set {w0 w:World} {R:Nat} {a:Option Addr} {cap:Nat} {L:List UInt8} {s s':IR} (h:sB w0 w R a cap L s) {i:Nat} {v:Value}
  (hc:(#[.slice a L.length cap, .int .i64 s.pos, .int .i64 s.err]:Array Value).setIfInBounds i v=#[.slice a L.length cap, .int .i64 s'.pos, .int .i64 s'.err]) (ho:s'.ok L):sB w0 (w.setCell ⟨R,i,none⟩ v) R a cap L s':=
 ⟨by rw [<- hc];exact h.1.set i v,h.2.1,h.2.2.1.setCell h.2.2.2.1 _,h.2.2.2.1,ho⟩
theorem sB.drew {w0 w:World} {R:Nat} {a:Option Addr} {cap:Nat} {L:List UInt8} {s:IR} (h:sB w0 w R a cap L s):sB w0 w.drew R a cap L s:=⟨h.1.drew,h.2.1,h.2.2.1.drew,h.2.2.2⟩
theorem sB.bytes {w0 w:World} {R:Nat} {a:Option Addr} {cap:Nat} {L:List UInt8} {s:IR} (h:sB w0 w R a cap L s):eI w (.slice a L.length cap) L:=h.2.1.below h.2.2.1
theorem qo (w0 w:World) (R:Nat) (a:Option Addr) (cap:Nat) (L:List UInt8) (s:IR) (h:sB w0 w R a cap L s):
  Calls prog 293 #[.pointer (some ⟨R,0,none⟩)] w (yR w0 w R a cap L (.int .i64 (s.byte L).1) (s.byte L).2):=by
 have K5:=IR.xw h.2.2.2.2;obtain⟨pos,err⟩:=s;have Lb:=h.1;have Kt:=h.2.2.2.2;obtain⟨o1,o2,o3⟩:=Kt;simp only at o1 o2 o3;obtain⟨_,_,NO,PM,Mr,-⟩:=h.2.1;injection NO with e1 e2 e3;subst e1 e3;clear e2;unfold maxLen at Mr;have d0:=Lb.cell 0;have d1:=Lb.cell 1;have d2:=Lb.cell 2;have z1:=Lb.free 1;have z2:=Lb.free 2;have H:=V h;clear h Lb;simp only at d1 d2;by_cases q1:err=0;rotate_left
 ·have f1:=fc q1
  have HB:=V (show IR.byte L ⟨pos,err⟩=(0,⟨pos,err⟩)by unfold IR.byte;exact if_neg q1);clear q1 K5;go_enter func293,ntmps293;go_wp2_with fail;go_ret;exact⟨by rw [HB.out];rfl,by rw [HB.out];exact H.out,dS.refl _ _⟩
 subst q1;by_cases q2:pos=L.length
 ·have f2:((pos:Int)==(L.length:Int))=true:=eF (by omega)
  have HB:=V (show IR.byte L ⟨pos,0⟩=(0,⟨pos,2⟩)by
   unfold IR.byte;rw [aJ rfl,show L[pos]?=none from cT (by omega)])
  have HO:=V K5;clear q2 K5;go_enter func293,ntmps293;go_wp2_with fail;refine ed (fun w'=>w'.cell? ⟨R,0,none⟩=some (.slice a L.length cap)/\w'.cell? ⟨R,1,none⟩=some (.int .i64 pos)) (up 0 11 []) (by kernel_rfl) (by kernel_rfl) ⟨d0,d1⟩ ?_;iterate 11 (first | (apply sk rfl rfl;simp only [pt]) | (apply dT rfl rfl rfl;·(rintro w' ⟨t0,t1⟩;go_wp2;exact⟨rfl,rfl,rfl⟩)))
  refine eH ?_;refine aD ?_;go_wp2_with fail;go_ret;exact⟨by rw [HB.out];rfl,by rw [HB.out];exact H.out.drew.set rfl (by have:=HO.out;rw [HB.out]at this;exact this),(dS.refl _ _).drew.trans (ff _ R 2 _) (fun _ h=> .inl h)⟩
 ·have f2:((pos:Int)==(L.length:Int))=false:=dQ (by omega)
  have Kq:pos < L.length:=by omega
  obtain⟨c,hc⟩:∃c,L[pos]?=some c:=⟨_,aq Kq⟩;have HB:=V (show IR.byte L ⟨pos,0⟩=(c.toNat,⟨pos+1,0⟩)by
   unfold IR.byte;rw [aJ rfl,hc])
  have HO:=V K5;obtain⟨_,_,NO,-,-,Kh⟩:=H.out.bytes;injection NO with e1 e2 e3;subst e1 e3;obtain⟨g,off,rfl,hg⟩:=Kh pos c hc;have hgR:g≠R:=by
   have h1:=aS w _ hg;obtain⟨_,_,NO,-,-,hcells0⟩:=H.out.2.1;injection NO with e1 e2 e3;obtain⟨g',off',e4,Qy⟩:=hcells0 pos c hc;rw [<- e1]at e4;injection e4 with e4;injection e4 with e4 e5;have h2:=aS w0 _ Qy;have h3:=H.out.2.2.2.1;intro h4;rw [h4]at e4;rw [<- e4]at h2;exact absurd h3 (Nat.not_le.2 h2)
  have Ov:((w.drew.setCell ⟨R,1,none⟩ (.int .i64 ((pos:Int)+1)))).cell? ⟨g,off+pos,none⟩=some (bv c):=by
   rw [bg (w:=w) (a:=⟨g,off+pos,none⟩) (cN w.drew ⟨R,1,none⟩ _ g hgR)];exact hg
  have OV:=(H.out.drew.1).set 1 (.int .i64 ((pos:Int)+1));have d0':(w.drew.setCell ⟨R,1,none⟩ (.int .i64 ((pos:Int)+1))).cell? ⟨R,0,none⟩=some (.slice (some ⟨g,off,none⟩) L.length cap):=OV.cell 0;have d1':(w.drew.setCell ⟨R,1,none⟩ (.int .i64 ((pos:Int)+1))).cell? ⟨R,1,none⟩=some (.int .i64 ((pos:Int)+1)):=OV.cell 1;have hcb:(c.toNat:Int) <=255:=by have:=c.toNat_lt;omega
  have hcb0:(0:Int) <=(c.toNat:Int):=by omega
  clear q2 K5 Kh e2 hc hg hgR OV;go_enter func293,ntmps293;go_wp2_with fail;refine ed (fun w'=>w'.cell? ⟨R,0,none⟩=some (.slice (some ⟨g,off,none⟩) L.length cap)/\w'.cell? ⟨R,1,none⟩=some (.int .i64 pos)) (up 0 11 []) (by kernel_rfl) (by kernel_rfl) ⟨d0,d1⟩ ?_;iterate 11 (first | (apply sk rfl rfl;simp only [pt]) | (apply dT rfl rfl rfl;·(rintro w' ⟨t0,t1⟩;go_wp2;exact⟨rfl,rfl,rfl⟩)))
  refine eH ?_;refine aD ?_;go_wp2_with fail;refine ed (fun w'=>w'.cell? ⟨R,0,none⟩=some (.slice (some ⟨g,off,none⟩) L.length cap)/\w'.cell? ⟨R,1,none⟩=some (.int .i64 ((pos:Int)+1))/\w'.cell? ⟨g,off+pos,none⟩=some (bv c)) (up 0 13 []) (by kernel_rfl) (by kernel_rfl) ⟨d0',d1',Ov⟩ ?_;iterate 13 (first | (apply sk rfl rfl;simp only [pt]) | (apply dT rfl rfl rfl;·(rintro w' ⟨t0,t1,t2⟩;go_wp2;exact⟨rfl,rfl,rfl⟩)))
  refine eH ?_;refine aD ?_;go_wp2_with fail;go_ret;exact⟨by rw [HB.out];rfl,by rw [HB.out];exact(H.out.drew.set rfl (by have:=HO.out;rw [HB.out]at this;exact this)).drew,((dS.refl _ _).drew.trans (ff _ R 1 _) (fun _ h=> .inl h)).drew⟩
theorem tq (w0 w:World) (R:Nat) (a:Option Addr) (cap:Nat) (L:List UInt8) (s:IR) (h:sB w0 w R a cap L s):
  Calls prog 296 #[.pointer (some ⟨R,0,none⟩)] w (yR w0 w R a cap L (.tuple #[]) (s.zero L)):=by
 have K5:=IR.GB h.2.2.2.2;have HH:=V h;obtain⟨s1,LV⟩:∃s1,(s.byte L).2=s1:=⟨_,rfl⟩;obtain⟨v1,Nx⟩:∃v1,(s.byte L).1=v1:=⟨_,rfl⟩;have HO:=V K5;have H1:=V LV;have V1:=V Nx;clear h K5 LV Nx;go_enter func296,ntmps296;go_wp2_with fail;refine(qo w0 _ R a cap L s HH.out).mono ?_;rintro e w1 ⟨rfl,h1,hk⟩;rw [V1.out];rw [H1.out]at h1;have z2:=h1.1.free 2;have d2:w1.cell? ⟨R,2,none⟩=some (.int .i64 s1.err):=h1.1.cell 2;have HI:=V h1;clear h1;by_cases q:v1=0
 ·have f:=jI (show(v1:Int)=0 by omega)
  have HZ:=V (show s.zero L=s1 by unfold IR.zero;rw [V1.out,if_pos q,H1.out]);clear q;go_wp2_with fail
  go_end0
  exact⟨rfl,by rw [HZ.out];exact HI.out,hk⟩
 ·have f:=fc (show(v1:Int)≠0 by omega)
  have HZ:=V (show s.zero L=⟨s1.pos,1⟩by unfold IR.zero;rw [V1.out,if_neg q,H1.out]);clear q;go_wp2_with fail
  go_end0
  exact⟨rfl,by rw [HZ.out];exact HI.out.set rfl (by have:=HO.out;rw [HZ.out]at this;exact this),hk.trans (ff _ R 2 _) (fun _ h=> .inl h)⟩
theorem zs (a:Option Addr) (cap:Nat) {L:List UInt8} {pos:Nat} (h:pos <=L.length):∃a2 Kn,
  (∀wx,(Instr.slice 97 (.slice a L.length cap) (some (.int .i64 pos)) none none).run prog wx= .ok (.slice a2 (L.drop pos).length Kn) wx)/\
  (∀wy,eI wy (.slice a L.length cap) L ->eI wy (.slice a2 (L.drop pos).length Kn) (L.drop pos)):=by
 obtain⟨a2,Kn,h1,h2,-⟩:=ow (show L=L.take pos++L.drop pos from(cF pos L).symm) a cap;rw [aR,cJ h]at h1;exact⟨a2,Kn,h1,h2⟩
theorem Dc (l:List UInt8):(ia 32 l).1 < 4294967296:=by
 unfold ia;split
 ·simp
 ·split
  ·rename_i h
   simpa using h.2
  ·simp
theorem ll (w0 w:World) (R:Nat) (a:Option Addr) (cap:Nat) (L:List UInt8) (s:IR) (h:sB w0 w R a cap L s) (lim:Nat):
  Calls prog 295 #[.pointer (some ⟨R,0,none⟩), .int .i64 lim] w (yR w0 w R a cap L (.int .i64 (s.jQ L lim).1) (s.jQ L lim).2):=by
 have K5:=IR.Ih (lim:=lim) h.2.2.2.2;obtain⟨pos,err⟩:=s;have Lb:=h.1;have Kt:=h.2.2.2.2;obtain⟨o1,o2,o3⟩:=Kt;simp only at o1 o2 o3;obtain⟨_,_,NO,PM,Mr,-⟩:=h.2.1;injection NO with e1 e2 e3;subst e1 e3;clear e2;unfold maxLen at Mr;have d0:=Lb.cell 0;have d1:=Lb.cell 1;have d2:=Lb.cell 2;have z1:=Lb.free 1;have z2:=Lb.free 2;have H:=V h;clear h Lb;simp only at d1 d2;by_cases q1:err=0;rotate_left
 ·have f1:=fc q1
  have HB:=V (show IR.jQ L lim ⟨pos,err⟩=(0,⟨pos,err⟩)by unfold IR.jQ;exact if_neg q1);clear q1 K5;go_enter func295,ntmps295;go_wp2_with fail;go_ret;exact⟨by rw [HB.out];rfl,by rw [HB.out];exact H.out,dS.refl _ _⟩
 subst q1;obtain⟨a2,Kn,NO,hi⟩:=zs a cap o1;obtain⟨n,k,er,KX⟩:∃n k er,ia 32 (L.drop pos)=(n,k,er):=⟨_,_,_,rfl⟩;have hn:n < 4294967296:=by have:=Dc (L.drop pos);rw [KX]at this;exact this
 have hk:pos+k <=L.length:=by have:=wZ 32 (L.drop pos);rw [KX,bm]at this;simp only at this;omega
 have HB:=V (show IR.jQ L lim ⟨pos,0⟩=if er=0 then(if lim < n then(0,⟨pos,1⟩)else(n,⟨pos+k,0⟩))else(0,⟨pos,er⟩)by unfold IR.jQ;simp only [KX,if_true]);obtain⟨q,hq⟩:∃q,L.drop pos=q:=⟨_,rfl⟩;rw [hq]at NO hi KX;have HI:=V hi;have HO:=V K5;clear hi K5 hq;by_cases q2:er=0;rotate_left
 ·have f2:=fc q2
  have f3:=dQ q2;replace HB:=V (show IR.jQ L lim ⟨pos,0⟩=(0,⟨pos,er⟩)by rw [HB.out,aC q2]);clear q2;go_enter func295,ntmps295;go_wp2_with fail;refine ed (fun w'=>w'.cell? ⟨R,0,none⟩=some (.slice a L.length cap)/\w'.cell? ⟨R,1,none⟩=some (.int .i64 pos)) (up 0 9 ((9,false)::up 10 7 [])) (by kernel_rfl) (by kernel_rfl) ⟨d0,d1⟩ ?_;iterate 9 (first | (apply sk rfl rfl;simp only [pt]) | (apply dT rfl rfl rfl;·(rintro w' ⟨t0,t1⟩;go_wp2;exact⟨rfl,rfl,rfl⟩)))
  refine dZ rfl rfl ?_;go_wp2_with fail;refine(uJ _ q _ _ ((HI.out _ H.out.bytes).below (an _ _).drew) (by omega) (by omega)).mono ?_;rintro e w1 ⟨rfl,hb⟩;have KF:Below w.heap.size w w1:=fM hb;rw [KX];have Lk:=H.out.1.below KF H.out.1.lt;have d0':w1.cell? ⟨R,0,none⟩=some (.slice a L.length cap):=Lk.cell 0;have d1':w1.cell? ⟨R,1,none⟩=some (.int .i64 pos):=Lk.cell 1;have d2':w1.cell? ⟨R,2,none⟩=some (.int .i64 0):=Lk.cell 2;have z1':=Lk.free 1;have z2':=Lk.free 2;have h1:sB w0 w1 R a cap L ⟨pos,0⟩:=⟨Lk,H.out.2.1,H.out.2.2.1.trans (KF.mono H.out.2.2.1.size),H.out.2.2.2⟩;have H1:=V h1;have HB1:=V KF;clear h1 Lk hb KF d0 d1 d2 z1 z2 NO KX;go_wp2_with fail;refine⟨⟨d0',d1'⟩,?_⟩;iterate 7 (first | (apply sk rfl rfl;simp only [pt]) | (apply dT rfl rfl rfl;·(rintro w' ⟨t0,t1⟩;go_wp2;exact⟨rfl,rfl,rfl⟩)))
  refine eH ?_;refine aD ?_;go_wp2_with fail;go_ret;have hk:=(dS.dV (S:=fun k=>k=R) HB1.out).trans (ff w1 R 2 (.int .i64 er)) (fun _ h=> .inl h);exact⟨by rw [HB.out];rfl,by rw [HB.out];exact H1.out.set rfl (by have:=HO.out;rw [HB.out]at this;exact this),hk⟩
 subst q2;by_cases q3:lim < n
 ·have f3:decide (lim < n)=true:=az q3
  replace HB:=V (show IR.jQ L lim ⟨pos,0⟩=(0,⟨pos,1⟩)by rw [HB.out,aJ rfl,aJ q3]);clear q3;go_enter func295,ntmps295;go_wp2_with fail;refine ed (fun w'=>w'.cell? ⟨R,0,none⟩=some (.slice a L.length cap)/\w'.cell? ⟨R,1,none⟩=some (.int .i64 pos)) (up 0 9 ((9,false)::up 10 7 [])) (by kernel_rfl) (by kernel_rfl) ⟨d0,d1⟩ ?_;iterate 9 (first | (apply sk rfl rfl;simp only [pt]) | (apply dT rfl rfl rfl;·(rintro w' ⟨t0,t1⟩;go_wp2;exact⟨rfl,rfl,rfl⟩)))
  refine dZ rfl rfl ?_;go_wp2_with fail;refine(uJ _ q _ _ ((HI.out _ H.out.bytes).below (an _ _).drew) (by omega) (by omega)).mono ?_;rintro e w1 ⟨rfl,hb⟩;have KF:Below w.heap.size w w1:=fM hb;rw [KX];have Lk:=H.out.1.below KF H.out.1.lt;have d0':w1.cell? ⟨R,0,none⟩=some (.slice a L.length cap):=Lk.cell 0;have d1':w1.cell? ⟨R,1,none⟩=some (.int .i64 pos):=Lk.cell 1;have d2':w1.cell? ⟨R,2,none⟩=some (.int .i64 0):=Lk.cell 2;have z1':=Lk.free 1;have z2':=Lk.free 2;have h1:sB w0 w1 R a cap L ⟨pos,0⟩:=⟨Lk,H.out.2.1,H.out.2.2.1.trans (KF.mono H.out.2.2.1.size),H.out.2.2.2⟩;have H1:=V h1;have HB1:=V KF;clear h1 Lk hb KF d0 d1 d2 z1 z2 NO KX;go_wp2_with fail;refine⟨⟨d0',d1'⟩,?_⟩;iterate 7 (first | (apply sk rfl rfl;simp only [pt]) | (apply dT rfl rfl rfl;·(rintro w' ⟨t0,t1⟩;go_wp2;exact⟨rfl,rfl,rfl⟩)))
  refine eH ?_;refine aD ?_;go_wp2_with fail;go_ret;have hk:=(dS.dV (S:=fun k=>k=R) HB1.out).trans (ff w1 R 2 (.int .i64 1)) (fun _ h=> .inl h);exact⟨by rw [HB.out];rfl,by rw [HB.out];exact H1.out.set rfl (by have:=HO.out;rw [HB.out]at this;exact this),hk⟩
 ·have f3:decide (lim < n)=false:=aA q3
  replace HB:=V (show IR.jQ L lim ⟨pos,0⟩=(n,⟨pos+k,0⟩)by rw [HB.out,aJ rfl,aC q3]);clear q3;go_enter func295,ntmps295;go_wp2_with fail;refine ed (fun w'=>w'.cell? ⟨R,0,none⟩=some (.slice a L.length cap)/\w'.cell? ⟨R,1,none⟩=some (.int .i64 pos)) (up 0 9 ((9,false)::up 10 7 [])) (by kernel_rfl) (by kernel_rfl) ⟨d0,d1⟩ ?_;iterate 9 (first | (apply sk rfl rfl;simp only [pt]) | (apply dT rfl rfl rfl;·(rintro w' ⟨t0,t1⟩;go_wp2;exact⟨rfl,rfl,rfl⟩)))
  refine dZ rfl rfl ?_;go_wp2_with fail;refine(uJ _ q _ _ ((HI.out _ H.out.bytes).below (an _ _).drew) (by omega) (by omega)).mono ?_;rintro e w1 ⟨rfl,hb⟩;have KF:Below w.heap.size w w1:=fM hb;rw [KX];have Lk:=H.out.1.below KF H.out.1.lt;have d0':w1.cell? ⟨R,0,none⟩=some (.slice a L.length cap):=Lk.cell 0;have d1':w1.cell? ⟨R,1,none⟩=some (.int .i64 pos):=Lk.cell 1;have d2':w1.cell? ⟨R,2,none⟩=some (.int .i64 0):=Lk.cell 2;have z1':=Lk.free 1;have z2':=Lk.free 2;have h1:sB w0 w1 R a cap L ⟨pos,0⟩:=⟨Lk,H.out.2.1,H.out.2.2.1.trans (KF.mono H.out.2.2.1.size),H.out.2.2.2⟩;have H1:=V h1;have HB1:=V KF;clear h1 Lk hb KF d0 d1 d2 z1 z2 NO KX;go_wp2_with fail;refine⟨⟨d0',d1'⟩,?_⟩;iterate 7 (first | (apply sk rfl rfl;simp only [pt]) | (apply dT rfl rfl rfl;·(rintro w' ⟨t0,t1⟩;go_wp2;exact⟨rfl,rfl,rfl⟩)))
  refine eH ?_;refine aD ?_;go_wp2_with fail;go_ret;have hk:=(dS.dV (S:=fun k=>k=R) HB1.out).trans ((ff w1 R 2 (.int .i64 0)).trans (ff _ R 1 (.int .i64 ((pos:Int)+k))) (fun _ h=> .inl h)) (fun _ h=> .inl h);have h2:=H1.out.set (s':=⟨pos,0⟩) (i:=2) (v:= .int .i64 0) rfl H1.out.2.2.2.2;exact⟨by rw [HB.out];rfl,by rw [HB.out];exact h2.set rfl (by have:=HO.out;rw [HB.out]at this;exact this),hk⟩
theorem vE (w0 w:World) (R:Nat) (a:Option Addr) (cap:Nat) (L:List UInt8) (s:IR) (h:sB w0 w R a cap L s) (he:s.err=0) (bits:Int) (Kw:1 <=bits) (Kl:bits <=64):
  Calls prog 297 #[.pointer (some ⟨R,0,none⟩), .int .i64 bits] w (yR w0 w R a cap L (.int .i64 (s.pW L bits).1) (s.pW L bits).2):=by
 have K5:=IR.Ip (bits:=bits) h.2.2.2.2;obtain⟨pos,err⟩:=s;have Lb:=h.1;have Kt:=h.2.2.2.2;obtain⟨o1,o2,o3⟩:=Kt;simp only at o1 o2 o3;obtain⟨_,_,NO,PM,Mr,-⟩:=h.2.1;injection NO with e1 e2 e3;subst e1 e3;clear e2;unfold maxLen at Mr;have d0:=Lb.cell 0;have d1:=Lb.cell 1;have d2:=Lb.cell 2;have z1:=Lb.free 1;have z2:=Lb.free 2;have H:=V h;clear h Lb;simp only at d1 d2;simp only at he;subst he;obtain⟨a2,Kn,NO,hi⟩:=zs a cap o1;obtain⟨n,k,er,KX⟩:∃n k er,jo bits (L.drop pos)=(n,k,er):=⟨_,_,_,rfl⟩;have hk:pos+k <=L.length:=by have:=BJ bits (L.drop pos);rw [KX,bm]at this;simp only at this;omega
 have HB:=V (show IR.pW L bits ⟨pos,0⟩=(n,⟨pos+k,er⟩)by unfold IR.pW;simp only [KX]);obtain⟨q,hq⟩:∃q,L.drop pos=q:=⟨_,rfl⟩;rw [hq]at NO hi KX;have HI:=V hi;have HO:=V K5;clear hi K5 hq;go_enter func297,ntmps297;go_wp2_with fail;refine ed (fun w'=>w'.cell? ⟨R,0,none⟩=some (.slice a L.length cap)/\w'.cell? ⟨R,1,none⟩=some (.int .i64 pos)) (up 0 10 ((10,false)::up 11 7 [])) (by kernel_rfl) (by kernel_rfl) ⟨d0,d1⟩ ?_;iterate 10 (first | (apply sk rfl rfl;simp only [pt]) | (apply dT rfl rfl rfl;·(rintro w' ⟨t0,t1⟩;go_wp2;exact⟨rfl,rfl,rfl⟩)))
 refine dZ rfl rfl ?_;go_wp2_with fail;refine(B9 _ q _ _ ((HI.out _ H.out.bytes).below (an _ _).drew) (by omega) (by omega)).mono ?_;rintro e w1 ⟨rfl,hb⟩;have KF:Below w.heap.size w w1:=fM hb;rw [KX];have Lk:=H.out.1.below KF H.out.1.lt;have d0':w1.cell? ⟨R,0,none⟩=some (.slice a L.length cap):=Lk.cell 0;have d1':w1.cell? ⟨R,1,none⟩=some (.int .i64 pos):=Lk.cell 1;have d2':w1.cell? ⟨R,2,none⟩=some (.int .i64 0):=Lk.cell 2;have z1':=Lk.free 1;have z2':=Lk.free 2;have h1:sB w0 w1 R a cap L ⟨pos,0⟩:=⟨Lk,H.out.2.1,H.out.2.2.1.trans (KF.mono H.out.2.2.1.size),H.out.2.2.2⟩;have H1:=V h1;have HB1:=V KF;clear h1 Lk hb KF d0 d1 d2 z1 z2 NO KX;go_wp2_with fail;refine⟨⟨d0',d1'⟩,?_⟩;iterate 7 (first | (apply sk rfl rfl;simp only [pt]) | (apply dT rfl rfl rfl;·(rintro w' ⟨t0,t1⟩;go_wp2;exact⟨rfl,rfl,rfl⟩)))
 refine eH ?_;refine aD ?_;go_wp2_with fail;go_ret;have hk:=(dS.dV (S:=fun k=>k=R) HB1.out).trans ((ff w1 R 1 (.int .i64 ((pos:Int)+k))).trans (ff _ R 2 (.int .i64 er)) (fun _ h=> .inl h)) (fun _ h=> .inl h);have hO:IR.ok L ⟨pos+k,er⟩:=by have:=HO.out;rw [HB.out]at this;exact this
 have h2:=H1.out.set (s':=⟨pos+k,0⟩) (i:=1) (v:= .int .i64 ((pos:Int)+k)) rfl ⟨hO.1,by simp,by simp⟩;exact⟨by rw [HB.out];rfl,by rw [HB.out];exact h2.set rfl hO,hk⟩
theorem Dr (w:World) (l:List Int) (t:TypeId) (hl:l.length <=1000):ee 1 eZ (w.alloc (.cells (l.map fun n=>Value.int .i64 n).toArray t)) (.slice (some ⟨w.heap.size,0,none⟩) l.length l.length) l:=by
 refine⟨_,l.length,rfl,ag _,by simp only [maxLen];omega,fun i y hy=>⟨w.heap.size,0,rfl,by simp,fun j u hu=>?_⟩⟩;rw [bP]
 match j,hu with
 | 0,hu=>
  simp [eZ]at hu;simp [hy,hu]
 | j+1,hu=>simp [eZ]at hu
theorem zT (v:Value) (l:List Int) (x:Int) (w:World) (hl:ee 1 eZ w v l):
  Calls prog 299 #[v, .int .i64 x] w (jP (fun n=>x==n) l w):=by
 have HI:=V hl;obtain⟨a,cap,rfl,h1,h2,_⟩:=id hl;unfold maxLen at h2;clear hl;go_enter func299,ntmps299;go_wp2_with fail;refine ez (fun a' w'=>∃(k:Nat),a'=fr (.slice a l.length cap:: .int .i64 x::gs a' 2 5 (.int .i64 l.length:: .int .i64 k::gs a' 9 10 []))/\pI (fun n=>x==n) l w w' k) (fun a' _=>(l.length - (intOf (a'.tmps.getD 8 undef)).toNat)) ?_ ?_
 ·exact⟨0,rfl,by omega,fun i hi=>by omega,an _ _⟩
 ·skip
  rintro R a' w1 ⟨k,Kk,hJ⟩ HR;dsimp only [fr,gs]at Kk;generalize slot a'=f at Kk;subst Kk;obtain⟨hk,hm,hb⟩:=hJ;have Lj:=V hm;clear hm;by_cases Lg:k < l.length;rotate_left
  ·obtain rfl:k=l.length:=by omega
   go_wp2_with fail;go_ret;exact⟨by rw [gL Lj.out];rfl,hb⟩
  obtain⟨e,he⟩:∃e,l[k]?=some e:=⟨_,aq Lg⟩;obtain⟨a',KE,hv,_,_,Kh⟩:=HI.out.below (hb.mono (ag _));injection hv with e1 e2 e3;subst e1 e3;obtain⟨b,off,rfl,Kq,hc⟩:=Kh k e he;have c0:=hc 0 _ rfl;rw [aK,bj]at c0;have HE:=V he;clear Kh e2 he hc;by_cases q:x=e
  ·have f:=eF q
   have HQ:=V (show(x==e)=true from f);clear q;go_wp2_with fail;go_ret;exact⟨by rw [ie HE.out HQ.out Lj.out];rfl,hb⟩
  ·have f:=dQ q
   have HQ:=V (show(x==e)=false from f);clear q;go_wp2_with fail;refine HR.out _ _ ⟨k+1,rfl,by omega,?_,hb⟩ ?_
   ·intro i hi d hd
    rcases bq i k with h | h
    ·exact Lj.out i h d hd
    ·obtain rfl:i=k:=by omega
     rw [HE.out]at hd;injection hd with hd;rw [<- hd];exact HQ.out
   ·simp [intOf]
    omega
theorem AI (w0 w:World) (R:Nat) (a:Option Addr) (cap:Nat) (L:List UInt8) (s:IR) (h:sB w0 w R a cap L s):
  Calls prog 294 #[.pointer (some ⟨R,0,none⟩)] w (yR w0 w R a cap L (.int .i64 (s.kind L).1) (s.kind L).2):=by
 have K5:=IR.GI h.2.2.2.2;have HH:=V h;obtain⟨s1,LV⟩:∃s1,(s.byte L).2=s1:=⟨_,rfl⟩;obtain⟨v1,Nx⟩:∃v1,(s.byte L).1=v1:=⟨_,rfl⟩;have HO:=V K5;have H1:=V LV;have V1:=V Nx;have HK:=V (show s.kind L=if v1=64 then(0,s1)else if v1=127 then(1,s1)else if v1=126 then(2,s1)else(0,if s1.err=0 then⟨s1.pos,1⟩else s1)by unfold IR.kind;rw [LV,Nx]);clear h K5 LV Nx;go_enter func294,ntmps294;go_wp2_with fail;refine(qo w0 _ R a cap L s HH.out).mono ?_;rintro e w1 ⟨rfl,h1,hk⟩;rw [V1.out];rw [H1.out]at h1;have HI1:=V h1;have HK1:=V hk;clear h1 hk;go_wp2_with fail;refine(zT _ [64,127,126] v1 _ (Dr w1 [64,127,126] _ (by simp))).mono ?_;rintro e w2 ⟨rfl,hb⟩;have KF:Below w1.heap.size w1 w2:=((an _ _).alloc (ag _) _).trans (hb.mono (by simp));have h2:sB w0 w2 R a cap L s1:=HI1.out.keeps (dS.dV (S:=fun _=>False) KF) (fun h=>h) (fun _ h=>h.elim);have z2:=h2.1.free 2;have d2:w2.cell? ⟨R,2,none⟩=some (.int .i64 s1.err):=h2.1.cell 2;have Nq:=V h2;have Lx:=V (HK1.out.trans (dS.dV (S:=fun k=>k=R) KF) (fun _ h=> .inl h));clear h2 hb KF;by_cases q0:v1=64
 ·have hx:sy (fun n=>((v1:Nat):Int)==n) [64,127,126]=0:=by rw [q0];rfl
  replace HK:=V (show s.kind L=(0,s1)by rw [HK.out,aJ q0]);rw [hx];clear hx q0;go_wp2_with fail;go_ret;exact⟨by rw [HK.out];rfl,by rw [HK.out];exact Nq.out,Lx.out⟩
 by_cases q1:v1=127
 ·have hx:sy (fun n=>((v1:Nat):Int)==n) [64,127,126]=1:=by rw [q1];rfl
  replace HK:=V (show s.kind L=(1,s1)by rw [HK.out,aC q0,aJ q1]);rw [hx];clear hx q0 q1;go_wp2_with fail;go_ret;exact⟨by rw [HK.out];rfl,by rw [HK.out];exact Nq.out,Lx.out⟩
 by_cases q2:v1=126
 ·have hx:sy (fun n=>((v1:Nat):Int)==n) [64,127,126]=2:=by rw [q2];rfl
  replace HK:=V (show s.kind L=(2,s1)by rw [HK.out,aC q0,aC q1,aJ q2]);rw [hx];clear hx q0 q1 q2;go_wp2_with fail;go_ret;exact⟨by rw [HK.out];rfl,by rw [HK.out];exact Nq.out,Lx.out⟩
 have hx:sy (fun n=>((v1:Nat):Int)==n) [64,127,126]= -1:=by
  have h0:(((v1:Nat):Int)==64)=false:=dQ (by omega);have h1:(((v1:Nat):Int)==127)=false:=dQ (by omega);have h2:(((v1:Nat):Int)==126)=false:=dQ (by omega);simp [sy,List.findIdx?_cons,h0,h1,h2]
 replace HK:=V (show s.kind L=(0,if s1.err=0 then⟨s1.pos,1⟩else s1)by rw [HK.out,aC q0,aC q1,aC q2]);rw [hx];clear hx q0 q1 q2;by_cases q:s1.err=0
 ·have f:=eF q
  replace HK:=V (show s.kind L=(0,⟨s1.pos,1⟩)by rw [HK.out,aJ q]);clear q;go_wp2_with fail;go_ret;exact⟨by rw [HK.out];rfl,by rw [HK.out];exact Nq.out.set rfl (by have:=HO.out;rw [HK.out]at this;exact this),Lx.out.trans (ff _ R 2 _) (fun _ h=> .inl h)⟩
 ·have f:=dQ q
  replace HK:=V (show s.kind L=(0,s1)by rw [HK.out,aC q]);clear q;go_wp2_with fail;go_ret;exact⟨by rw [HK.out];rfl,by rw [HK.out];exact Nq.out,Lx.out⟩

section
inductive Ord where
 | nil:Ord
 | cons (i:Nat) (b:Bool) (rest:Ord):Ord
 | fork (i j:Nat) (ri rj:Ord):Ord
def Ord.depth:Ord ->Nat
 | .nil=>0
 | .cons _ _ r=>r.depth+1
 | .fork _ _ a b=>max a.depth b.depth+1
def ord:List (Nat × Bool) ->Ord ->Ord
 | [],r=>r
 | (i,b)::l,r=> .cons i b (ord l r)
def kr (P:Program) (ops:List Oper) (Q:Exit ->Act ->World ->Prop) (S:World ->Prop):Ord ->Act ->World ->Prop
 | .nil,a,w=>Q .normal a w
 | Ord.cons i true rest,a,w=>∃o,nth ops i=some o/\
   ((ld ops o.guard a=true/\∃d,o.dst=some d/\d < a.tmps.size/\∃a',(∀w',S w' ->wpList P #[] (BC a' w') [bare o] a w')/\kr P ops Q S rest a' w)\/
    (ld ops o.guard a=false/\kr P ops Q S rest (a.put o.dst undef) w))
 | Ord.cons i false rest,a,w=>∃o,nth ops i=some o/\
   ((ld ops o.guard a=true/\wpList P #[] (nX Q S (kr P ops Q S rest)) [bare o] a w)\/
    (ld ops o.guard a=false/\kr P ops Q S rest (a.put o.dst undef) w))
 | .fork i j ri rj,a,w=>(∃o,nth ops i=some o/\
   ((ld ops o.guard a=true/\wpList P #[] (nX Q S (kr P ops Q S ri)) [bare o] a w)\/
    (ld ops o.guard a=false/\kr P ops Q S ri (a.put o.dst undef) w)))/\(∃o,nth ops j=some o/\
   ((ld ops o.guard a=true/\wpList P #[] (nX Q S (kr P ops Q S rj)) [bare o] a w)\/
    (ld ops o.guard a=false/\kr P ops Q S rj (a.put o.dst undef) w)))
def pM (ops:Array Oper):Ord ->Array Bool ->Bool
 | .nil,listed=>(Region.ready .any ops listed).isEmpty
 | Ord.cons i true rest,listed=>(ops[i]?.any fun o=>isVal o.op)&&(Region.ready .any ops listed).contains i&&Region.free .any ops listed i&&pM ops rest (listed.setIfInBounds i true)
 | Ord.cons i false rest,listed=>(Region.ready .any ops listed==[i])&&pM ops rest (listed.setIfInBounds i true)
 | .fork i j ri rj,listed=>(Region.ready .any ops listed==[i,j])&&pM ops ri (listed.setIfInBounds i true)&&pM ops rj (listed.setIfInBounds j true)
theorem mT {P:Program} {ops:Array Oper} {Q:Exit ->Act ->World ->Prop} {S:World ->Prop} {j:Nat} {K K':Act ->World ->Prop} {a:Act} {w:World} (hS:S w) (hK:∀a w,S w ->K a w ->K' a w)
  (h:∃o,nth ops.toList j=some o/\((ld ops.toList o.guard a=true/\wpList P #[] (nX Q S K) [bare o] a w)\/(ld ops.toList o.guard a=false/\K (a.put o.dst undef) w))):
  wpOp P ops Q j (fun a' w'=>S w'/\K' a' w') a w:=by
 obtain⟨o,ho,h⟩:=h;rw [nV,cE]at ho;unfold wpOp;simp only [ho];rw [me];rcases h with⟨hg,hw⟩ | ⟨hg,hk⟩
 ·rw [aJ hg]
  have LK:∀a' w',nX Q S K .normal a' w' ->S w'/\K' a' w':=fun a' w' h=>⟨h.1,hK _ _ h.1 h.2⟩;have NU:LetsOut (nX Q S K) ->LetsOut Q:=fun⟨a,w,h⟩=>⟨a,w,h⟩;rcases lW hw with h1 | ⟨h1,h2⟩
  ·left
   unfold Oper.wp at h1⊢;rw [iL]at h1;generalize(execOp a.eval o).run P w=r at*;cases r with
   | ok n w'=>
    cases n <;>simp only [Oper.upon]at h1⊢
    case value=>exact LK _ _ h1
    case skip=>exact LK _ _ h1
    case defer=>exact LK _ _ h1
    case enter=>
     refine bT h1 fun e w'' he=>?_;cases e with
     | returned v=>exact LK _ _ he
     | panicked c=>exact he.elim
     | outgrown=>exact NU he
    case row=>exact Rows.mono h1 fun v w'' he=>LK _ _ he
   | halt x w'=>
    cases x <;>simp only [Oper.upon]at h1⊢
    case panic=>exact h1.elim
  ·exact .inr ⟨h1,NU h2⟩
 ·rw [aC (by rw [hg];simp)]
  exact⟨hS,hK _ _ hS hk⟩
theorem lq {P:Program} {ops:Array Oper} {Q:Exit ->Act ->World ->Prop} {S:World ->Prop} (hQ:∀c a w,¬ Q (.panic c) a w) (hs:Region.noSelect ops=true):
  ∀(l:Ord) (fuel:Nat) (listed:Array Bool) (a:Act) (w:World),l.depth <=fuel ->pM ops l listed=true ->S w ->
   kr P ops.toList Q S l a w ->wpAnyH P .any ops Q S fuel listed a w
 | .nil,fuel,listed,a,w,_,Kt,_,h=>by
  simp only [pM,List.isEmpty_iff]at Kt;exact wpAnyH_done Kt h fuel
 | Ord.cons i true rest,0,_,_,_,hl,_,_,_=>by simp [Ord.depth]at hl
 | Ord.cons i false rest,0,_,_,_,hl,_,_,_=>by simp [Ord.depth]at hl
 | Ord.cons i true rest,fuel+1,listed,a,w,hl,Kt,hS,h=>by
  simp only [pM,bN]at Kt;obtain⟨⟨⟨hv,hr⟩,hf⟩,Li⟩:=Kt;simp only [Ord.depth]at hl;obtain⟨o,ho,h⟩:=h;rw [nV,cE]at ho;rw [ho]at hv;simp only [Option.any_some]at hv;rcases h with⟨hg,d,hd,hds,a',hp,hk⟩ | ⟨hg,hk⟩
  ·refine wpAnyH_take (v:=a'.tmps.getD d undef) ho hs hf hr (fun c a w h=>(hQ _ _ _ h).elim) (.inl ⟨by rw [me];exact hg,fun w' hw'=>?_⟩) hS ?_
   ·rcases lW (hp w' hw')with h1 | ⟨_,h2⟩
    ·unfold Oper.wp at h1
     rw [iL]at h1;rcases mo (P:=P) (ρ:=a.eval) hv w' with⟨v,w2,Kx⟩ | ⟨x,w2,Kx⟩
     ·rw [Kx]at h1⊢
      obtain⟨_,h3,h4⟩:=h1;subst h4;subst h3;have:(bare o).dst=some d:=hd;rw [this];simp [Act.put,hds]
     ·rw [Kx]at h1
      cases x <;>simp only [Oper.upon]at h1
      case panic=>exact absurd h1.1 (by simp)
    ·obtain⟨_,_,h3,_⟩:=h2
     exact absurd h3 (by simp)
   ·have ha:a.put o.dst (a'.tmps.getD d undef)=a':=by
     rcases lW (hp w hS)with h1 | ⟨_,h2⟩
     ·unfold Oper.wp at h1
      rw [iL]at h1;rcases mo (P:=P) (ρ:=a.eval) hv w with⟨v,w2,Kx⟩ | ⟨x,w2,Kx⟩
      ·rw [Kx]at h1
       obtain⟨_,h3,h4⟩:=h1;have hd':(bare o).dst=some d:=hd;rw [<- h3,hd',hd];simp [Act.put,hds]
      ·rw [Kx]at h1
       cases x <;>simp only [Oper.upon]at h1
       case panic=>exact absurd h1.1 (by simp)
     ·obtain⟨_,_,h3,_⟩:=h2
      exact absurd h3 (by simp)
    rw [ha];exact lq hQ hs rest fuel _ _ _ (by omega) Li hS hk
  ·refine wpAnyH_take (v:=undef) ho hs hf hr (fun c a w h=>(hQ _ _ _ h).elim) (.inr ⟨by rw [me];exact hg,rfl⟩) hS ?_
   exact lq hQ hs rest fuel _ _ _ (by omega) Li hS hk
 | Ord.cons i false rest,fuel+1,listed,a,w,hl,Kt,hS,h=>by
  simp only [pM,bN,dC]at Kt;obtain⟨hr,Li⟩:=Kt;simp only [Ord.depth]at hl;obtain⟨o,ho,h⟩:=h;rw [nV,cE]at ho;refine wpAnyH_all hr (by simp) fun j hj=>?_;obtain rfl:j=i:=by simpa using hj
  unfold wpOp;simp only [ho];rw [me];rcases h with⟨hg,hw⟩ | ⟨hg,hk⟩
  ·rw [aJ hg]
   have LK:∀a' w',nX Q S (kr P ops.toList Q S rest) .normal a' w' ->S w'/\wpAnyH P .any ops Q S fuel (listed.setIfInBounds j true) a' w':=
    fun a' w' h=>⟨h.1,lq hQ hs rest fuel _ _ _ (by omega) Li h.1 h.2⟩
   have NU:LetsOut (nX Q S (kr P ops.toList Q S rest)) ->LetsOut Q:=fun⟨a,w,h⟩=>⟨a,w,h⟩;rcases lW hw with h1 | ⟨h1,h2⟩
   ·left
    unfold Oper.wp at h1⊢;rw [iL]at h1;generalize(execOp a.eval o).run P w=r at*;cases r with
    | ok n w'=>
     cases n <;>simp only [Oper.upon]at h1⊢
     case value=>exact LK _ _ h1
     case skip=>exact LK _ _ h1
     case defer=>exact LK _ _ h1
     case enter=>
      refine bT h1 fun e w'' he=>?_;cases e with
      | returned v=>exact LK _ _ he
      | panicked c=>exact he.elim
      | outgrown=>exact NU he
     case row=>exact Rows.mono h1 fun v w'' he=>LK _ _ he
    | halt x w'=>
     cases x <;>simp only [Oper.upon]at h1⊢
     case panic=>exact h1.elim
   ·exact .inr ⟨h1,NU h2⟩
  ·rw [aC (by rw [hg];simp)]
   exact⟨hS,lq hQ hs rest fuel _ _ _ (by omega) Li hS hk⟩
 | .fork i j ri rj,0,_,_,_,hl,_,_,_=>by simp [Ord.depth]at hl
 | .fork i j ri rj,fuel+1,listed,a,w,hl,Kt,hS,h=>by
  simp only [pM,bN,dC]at Kt;obtain⟨⟨hr,hok1⟩,hok2⟩:=Kt;simp only [Ord.depth]at hl;refine wpAnyH_all hr (by simp) fun k hk=>?_;rcases(by simpa using hk:k=i\/k=j)with rfl | rfl
  ·exact mT hS (fun a w hS h=>lq hQ hs ri fuel _ a w (by omega) hok1 hS h) h.1
  ·exact mT hS (fun a w hS h=>lq hQ hs rj fuel _ a w (by omega) hok2 hS h) h.2
theorem lC {P:Program} {ops:List Oper} {Q:Exit ->Act ->World ->Prop} {id:Nat} {a:Act} {w:World} (S:World ->Prop) (l:Ord) (hm:P.follows .mixedOrders=true)
  (Kt:(pM ops.toArray l (Array.replicate ops.length false)&&Region.noSelect ops.toArray&&decide (l.depth <=ops.length))=true) (hS:S w.drew)
  (h:kr P ops (NoPanic Q) S l a w.drew):(Code.region id ops.toArray true).wp P Q a w:=by
 simp only [bN,dj]at Kt;obtain⟨⟨Kt,hn⟩,hl⟩:=Kt;refine wp_region_noPanic (wp_region_held (S:=S) hm ?_);refine lq (S:=S) (fun c a w h=>h) hn l _ _ a _ ?_ ?_ hS ?_
 ·simpa using hl
 ·simpa using Kt
 ·simpa using h
section
variable {P:Program} {ops:List Oper} {Q:Exit ->Act ->World ->Prop} {S:World ->Prop} {i:Nat} {rest:Ord} {a:Act} {w:World} {d:Tmp} {op:Op} {t:TypeId} {p:String} {af:Array Edge} {g:Option (Nat × Bool)}
theorem iw (hi:nth ops i=some ⟨some d,op,t,p,af,g⟩) (hg:ld ops g a=true) (hd:Nat.ble (d+1) a.tmps.size=true) {a':Act} (hp:∀w',S w' ->wpList P #[] (BC a' w') [⟨some d,op,t,p,#[],none⟩] a w')
  (h:kr P ops Q S rest a' w):kr P ops Q S (.cons i true rest) a w:=
 ⟨_,hi, .inl ⟨hg,d,rfl,Nat.le_of_ble_eq_true hd,a',hp,h⟩⟩
theorem fH {dst:Option Tmp} (hi:nth ops i=some ⟨dst,op,t,p,af,g⟩) (hg:ld ops g a=true) (h:wpList P #[] (nX Q S (kr P ops Q S rest)) [⟨dst,op,t,p,#[],none⟩] a w):kr P ops Q S (.cons i false rest) a w:=
 ⟨_,hi, .inl ⟨hg,h⟩⟩
theorem lX (h:Q .normal a w):kr P ops Q S .nil a w:=h
theorem pg {i j:Nat} {ri rj:Ord} {oi oj:Oper} (hi:nth ops i=some oi) (hj:nth ops j=some oj) (gi:ld ops oi.guard a=true) (gj:ld ops oj.guard a=true)
  (h1:wpList P #[] (nX Q S (kr P ops Q S ri)) [⟨oi.dst,oi.op,oi.type,oi.pos,#[],none⟩] a w) (h2:wpList P #[] (nX Q S (kr P ops Q S rj)) [⟨oj.dst,oj.op,oj.type,oj.pos,#[],none⟩] a w):
  kr P ops Q S (.fork i j ri rj) a w:=
 ⟨⟨_,hi, .inl ⟨gi,h1⟩⟩,⟨_,hj, .inl ⟨gj,h2⟩⟩⟩
end
end
end Go.Proofs.YthbjdhjppbcneaaGreatDoor
