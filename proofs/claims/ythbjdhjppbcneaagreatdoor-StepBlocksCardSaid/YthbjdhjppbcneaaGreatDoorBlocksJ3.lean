import Derived.Test.YthbjdhjppbcneaaGreatDoorBlocksJ2
namespace Go.Proofs.YthbjdhjppbcneaaGreatDoor
set_option maxRecDepth 100000
set_option maxHeartbeats 20000000
open Go.RowKit Tryz
open Lib renaming hid->V
set_option linter.all false
def pC {α:Type} (la lb:List α) (w:World) (e:Ending) (w':World):Prop:=∃r:Bool,e= .returned (.bool r)/\(r=true↔la=lb)/\Below w.heap.size w w'
def zo {α:Type} (la lb:List α) (w w':World) (k:Nat):Prop:=k <=la.length/\la.take k=lb.take k/\Below w.heap.size w w'
def tC (b off b2 LV k:Nat) (e d:fm) (w:World):Prop:=
 (w.cell? ⟨b,off+k*2,none⟩=some (.int .i64 e.kind)/\w.cell? ⟨b,off+k*2+1,none⟩=some (.int .i64 e.n))/\
 w.cell? ⟨b2,LV+k*2,none⟩=some (.int .i64 d.kind)/\w.cell? ⟨b2,LV+k*2+1,none⟩=some (.int .i64 d.n)
def qY (b off b2 LV k:Nat) (e d:jD) (w:World):Prop:=
 (w.cell? ⟨b,off+k*2,none⟩=some (.int .i64 e.pos)/\w.cell? ⟨b,off+k*2+1,none⟩=some (.int .i64 e.eR))/\
 w.cell? ⟨b2,LV+k*2,none⟩=some (.int .i64 d.pos)/\w.cell? ⟨b2,LV+k*2+1,none⟩=some (.int .i64 d.eR)
theorem sz (va vb:Value) (la lb:List fm) (w:World) (ha:ew 2 gw w va la) (hb:ew 2 gw w vb lb):Calls prog 129 #[va,vb] w (pC la lb w):=by
 have HA:=V ha;have HB:=V hb;obtain⟨a,cap,rfl,h1,h2,_⟩:=ha;obtain⟨a2,Lu,rfl,h3,h4,_⟩:=hb;unfold maxLen at h2 h4;by_cases hlen:la.length=lb.length;rotate_left
 ·have f1:(((la.length:Int)) !=((lb.length:Int)))=true:=fw (by omega)
  have HL:=V hlen;clear hlen;go_enter func129,ntmps129;go_wp2_with fail;go_ret;exact⟨false,rfl,⟨fun h=>(by cases h),fun h=>absurd (cX List.length h) HL.out⟩,an _ _⟩
 rw [<- hlen]at h3⊢;have HL:=V hlen;clear hlen;go_enter func129,ntmps129;go_wp2_with fail;refine eJ (fun a' w'=>∃(k:Nat),a'=fr (.slice a la.length cap:: .slice a2 la.length Lu::gs a' 2 10 (.int .i64 la.length:: .int .i64 k::gs a' 14 12 []))/\zo la lb w w' k) (fun a' _=>(la.length - (intOf (a'.tmps.getD 13 undef)).toNat)) ?_ ?_
 ·exact⟨0,rfl,by omega,rfl,an _ _⟩
 ·skip
  rintro R a' w1 ⟨k,Lp,hJ⟩ HR;dsimp only [fr,gs]at Lp;generalize slot a'=f at Lp;subst Lp;obtain⟨hk,O3,hb⟩:=hJ;have HT:=V O3;clear O3;by_cases Mm:k < la.length;rotate_left
  ·obtain rfl:k=la.length:=by omega
   go_wp2_with fail;go_ret;refine⟨true,rfl,⟨fun _=>?_,fun _=>rfl⟩,hb⟩;have:=HT.out;rw [aV,HL.out,aV]at this;exact this
  obtain⟨e,he⟩:∃e,la[k]?=some e:=⟨_,aw Mm⟩;obtain⟨d,hd⟩:∃d,lb[k]?=some d:=⟨_,aw (by have:=HL.out;omega)⟩;obtain⟨a',LO,hv,_,_,Ln⟩:=HA.out.below (hb.mono (ag _));obtain⟨a2',cap2',M4,_,_,MH⟩:=HB.out.below (hb.mono (ag _));injection hv with e1 e2 e3;injection M4 with e4 e5 e6;subst e1 e3 e4 e6;obtain⟨b,off,rfl,Lw,hc⟩:=Ln k e he;obtain⟨b2,LV,rfl,Nc,Mj⟩:=MH k d hd;have c0:=hc 0 _ rfl;have c1:=hc 1 _ rfl;have c2:=Mj 0 _ rfl;have c3:=Mj 1 _ rfl;rw [aK]at c0 c2;have HE:=V he;have HD:=V hd;have cc:tC b off b2 LV k e d w1.drew:=⟨⟨c0,c1⟩,c2,c3⟩;have CC:=V cc;clear Ln MH e2 e5 he hd hc Mj c0 c1 c2 c3 cc;by_cases q1:e.kind=d.kind
  ·have f1:=eQ q1
   have Q1:=V q1;clear q1;by_cases q2:e.n=d.n
   ·have f2:=eQ q2
    have Q2:=V q2;clear q2;go_wp2_with fail;refine eu (tC b off b2 LV k e d) (up 0 9 []) (by kernel_rfl) (by kernel_rfl) CC.out ?_;iterate 8 (first | (apply sk rfl rfl;simp only [pt]) | (apply ef rfl rfl rfl;·(rintro w' ⟨⟨t0,t1⟩,t2,t3⟩;go_wp2;exact⟨rfl,rfl,rfl⟩)))
    iterate 1 (first | (apply sk rfl rfl;simp only [pt]) | (apply ef rfl rfl rfl;·(rintro w' ⟨⟨t0,t1⟩,t2,t3⟩;go_wp2;exact⟨rfl,rfl,rfl⟩)))
    refine eV ?_;refine aD ?_;go_wp2_with fail;refine HR.out _ _ ⟨k+1,rfl,by omega,?_,hb.drew⟩ ?_
    ·rw [aR,aR,HT.out,HE.out,HD.out]
     obtain⟨x0,x1⟩:=e;obtain⟨y0,y1⟩:=d;have g0:=Q1.out;have g1:=Q2.out;simp only at g0 g1;rw [g0,g1]
    ·simp [intOf]
     omega
   ·have f2:=ed q2
    have HX:=V (show e.n≠d.n from q2);clear q2;go_wp2_with fail;refine eu (tC b off b2 LV k e d) (up 0 9 []) (by kernel_rfl) (by kernel_rfl) CC.out ?_;iterate 8 (first | (apply sk rfl rfl;simp only [pt]) | (apply ef rfl rfl rfl;·(rintro w' ⟨⟨t0,t1⟩,t2,t3⟩;go_wp2;exact⟨rfl,rfl,rfl⟩)))
    iterate 1 (first | (apply sk rfl rfl;simp only [pt]) | (apply ef rfl rfl rfl;·(rintro w' ⟨⟨t0,t1⟩,t2,t3⟩;go_wp2;exact⟨rfl,rfl,rfl⟩)))
    refine eV ?_;refine aD ?_;go_wp2_with fail;go_ret;refine⟨false,rfl,⟨fun h=>(by cases h),fun h=>?_⟩,hb.drew⟩;have h1:=HE.out;rw [h,HD.out]at h1;injection h1 with h1;exact(HX.out (by rw [h1])).elim
  ·have f1:=ed q1
   have HX:=V (show e.kind≠d.kind from q1);clear q1;go_wp2_with fail;refine eu (tC b off b2 LV k e d) (up 0 9 []) (by kernel_rfl) (by kernel_rfl) CC.out ?_;iterate 8 (first | (apply sk rfl rfl;simp only [pt]) | (apply ef rfl rfl rfl;·(rintro w' ⟨⟨t0,t1⟩,t2,t3⟩;go_wp2;exact⟨rfl,rfl,rfl⟩)))
   iterate 1 (first | (apply sk rfl rfl;simp only [pt]) | (apply ef rfl rfl rfl;·(rintro w' ⟨⟨t0,t1⟩,t2,t3⟩;go_wp2;exact⟨rfl,rfl,rfl⟩)))
   refine eV ?_;refine aD ?_;go_wp2_with fail;go_ret;refine⟨false,rfl,⟨fun h=>(by cases h),fun h=>?_⟩,hb.drew⟩;have h1:=HE.out;rw [h,HD.out]at h1;injection h1 with h1;exact(HX.out (by rw [h1])).elim
theorem xU (va vb:Value) (la lb:List jD) (w:World) (ha:ew 2 kq w va la) (hb:ew 2 kq w vb lb):Calls prog 132 #[va,vb] w (pC la lb w):=by
 have HA:=V ha;have HB:=V hb;obtain⟨a,cap,rfl,h1,h2,_⟩:=ha;obtain⟨a2,Lu,rfl,h3,h4,_⟩:=hb;unfold maxLen at h2 h4;by_cases hlen:la.length=lb.length;rotate_left
 ·have f1:(((la.length:Int)) !=((lb.length:Int)))=true:=fw (by omega)
  have HL:=V hlen;clear hlen;go_enter func132,ntmps132;go_wp2_with fail;go_ret;exact⟨false,rfl,⟨fun h=>(by cases h),fun h=>absurd (cX List.length h) HL.out⟩,an _ _⟩
 rw [<- hlen]at h3⊢;have HL:=V hlen;clear hlen;go_enter func132,ntmps132;go_wp2_with fail;refine eJ (fun a' w'=>∃(k:Nat),a'=fr (.slice a la.length cap:: .slice a2 la.length Lu::gs a' 2 10 (.int .i64 la.length:: .int .i64 k::gs a' 14 12 []))/\zo la lb w w' k) (fun a' _=>(la.length - (intOf (a'.tmps.getD 13 undef)).toNat)) ?_ ?_
 ·exact⟨0,rfl,by omega,rfl,an _ _⟩
 ·skip
  rintro R a' w1 ⟨k,Lp,hJ⟩ HR;dsimp only [fr,gs]at Lp;generalize slot a'=f at Lp;subst Lp;obtain⟨hk,O3,hb⟩:=hJ;have HT:=V O3;clear O3;by_cases Mm:k < la.length;rotate_left
  ·obtain rfl:k=la.length:=by omega
   go_wp2_with fail;go_ret;refine⟨true,rfl,⟨fun _=>?_,fun _=>rfl⟩,hb⟩;have:=HT.out;rw [aV,HL.out,aV]at this;exact this
  obtain⟨e,he⟩:∃e,la[k]?=some e:=⟨_,aw Mm⟩;obtain⟨d,hd⟩:∃d,lb[k]?=some d:=⟨_,aw (by have:=HL.out;omega)⟩;obtain⟨a',LO,hv,_,_,Ln⟩:=HA.out.below (hb.mono (ag _));obtain⟨a2',cap2',M4,_,_,MH⟩:=HB.out.below (hb.mono (ag _));injection hv with e1 e2 e3;injection M4 with e4 e5 e6;subst e1 e3 e4 e6;obtain⟨b,off,rfl,Lw,hc⟩:=Ln k e he;obtain⟨b2,LV,rfl,Nc,Mj⟩:=MH k d hd;have c0:=hc 0 _ rfl;have c1:=hc 1 _ rfl;have c2:=Mj 0 _ rfl;have c3:=Mj 1 _ rfl;rw [aK]at c0 c2;have HE:=V he;have HD:=V hd;have cc:qY b off b2 LV k e d w1.drew:=⟨⟨c0,c1⟩,c2,c3⟩;have CC:=V cc;clear Ln MH e2 e5 he hd hc Mj c0 c1 c2 c3 cc;by_cases q1:e.pos=d.pos
  ·have f1:=eQ q1
   have Q1:=V q1;clear q1;by_cases q2:e.eR=d.eR
   ·have f2:=eQ q2
    have Q2:=V q2;clear q2;go_wp2_with fail;refine eu (qY b off b2 LV k e d) (up 0 9 []) (by kernel_rfl) (by kernel_rfl) CC.out ?_;iterate 8 (first | (apply sk rfl rfl;simp only [pt]) | (apply ef rfl rfl rfl;·(rintro w' ⟨⟨t0,t1⟩,t2,t3⟩;go_wp2;exact⟨rfl,rfl,rfl⟩)))
    iterate 1 (first | (apply sk rfl rfl;simp only [pt]) | (apply ef rfl rfl rfl;·(rintro w' ⟨⟨t0,t1⟩,t2,t3⟩;go_wp2;exact⟨rfl,rfl,rfl⟩)))
    refine eV ?_;refine aD ?_;go_wp2_with fail;refine HR.out _ _ ⟨k+1,rfl,by omega,?_,hb.drew⟩ ?_
    ·rw [aR,aR,HT.out,HE.out,HD.out]
     obtain⟨x0,x1⟩:=e;obtain⟨y0,y1⟩:=d;have g0:=Q1.out;have g1:=Q2.out;simp only at g0 g1;rw [g0,g1]
    ·simp [intOf]
     omega
   ·have f2:=ed q2
    have HX:=V (show e.eR≠d.eR from q2);clear q2;go_wp2_with fail;refine eu (qY b off b2 LV k e d) (up 0 9 []) (by kernel_rfl) (by kernel_rfl) CC.out ?_;iterate 8 (first | (apply sk rfl rfl;simp only [pt]) | (apply ef rfl rfl rfl;·(rintro w' ⟨⟨t0,t1⟩,t2,t3⟩;go_wp2;exact⟨rfl,rfl,rfl⟩)))
    iterate 1 (first | (apply sk rfl rfl;simp only [pt]) | (apply ef rfl rfl rfl;·(rintro w' ⟨⟨t0,t1⟩,t2,t3⟩;go_wp2;exact⟨rfl,rfl,rfl⟩)))
    refine eV ?_;refine aD ?_;go_wp2_with fail;go_ret;refine⟨false,rfl,⟨fun h=>(by cases h),fun h=>?_⟩,hb.drew⟩;have h1:=HE.out;rw [h,HD.out]at h1;injection h1 with h1;exact(HX.out (by rw [h1])).elim
  ·have f1:=ed q1
   have HX:=V (show e.pos≠d.pos from q1);clear q1;go_wp2_with fail;refine eu (qY b off b2 LV k e d) (up 0 9 []) (by kernel_rfl) (by kernel_rfl) CC.out ?_;iterate 8 (first | (apply sk rfl rfl;simp only [pt]) | (apply ef rfl rfl rfl;·(rintro w' ⟨⟨t0,t1⟩,t2,t3⟩;go_wp2;exact⟨rfl,rfl,rfl⟩)))
   iterate 1 (first | (apply sk rfl rfl;simp only [pt]) | (apply ef rfl rfl rfl;·(rintro w' ⟨⟨t0,t1⟩,t2,t3⟩;go_wp2;exact⟨rfl,rfl,rfl⟩)))
   refine eV ?_;refine aD ?_;go_wp2_with fail;go_ret;refine⟨false,rfl,⟨fun h=>(by cases h),fun h=>?_⟩,hb.drew⟩;have h1:=HE.out;rw [h,HD.out]at h1;injection h1 with h1;exact(HX.out (by rw [h1])).elim
section
section
variable {α β:Type} {k:Nat} {enc:α × β ->List Value} {inner:World ->α ->β ->Prop}
def et (k:Nat) (enc:α × β ->List Value) (inner:World ->α ->β ->Prop) (w:World) (v:Value) (l:List α):Prop:=
 ∃us:List β,us.length=l.length/\ew k enc w v (l.zip us)/\∀(i:Nat) (x:α) (u:β),l[i]?=some x ->us[i]?=some u ->inner w x u
theorem et.below {w w':World} {v:Value} {l:List α} (h:et k enc inner w v l) (hb:Below w.heap.size w w') (hi:∀x u,inner w x u ->inner w' x u):et k enc inner w' v l:=by
 obtain⟨us,h1,h2,h3⟩:=h;exact⟨us,h1,h2.below hb,fun i x u hx hu=>hi x u (h3 i x u hx hu)⟩
theorem et.nil (w:World):et k enc inner w (.slice none 0 0) []:=⟨[],rfl,ew.nil w,by simp⟩
theorem et.slice {w:World} {v:Value} {l:List α} (h:et k enc inner w v l):∃a cap,v= .slice a l.length cap/\l.length <=cap/\cap <=9223372036854775807:=by
 obtain⟨us,h1,⟨a,cap,hv,h2,h3,_⟩,_⟩:=h;have:(l.zip us).length=l.length:=by rw [bJ,h1,cd]
 rw [this]at hv h2;exact⟨a,cap,hv,h2,h3⟩
theorem et.get {w:World} {a:Option Addr} {n cap:Nat} {l:List α} (h:et k enc inner w (.slice a n cap) l) {i:Nat} {x:α} (hx:l[i]?=some x):
  ∃b off u,a=some ⟨b,off,none⟩/\b < w.heap.size/\(∀j v,(enc (x,u))[j]?=some v ->w.cell? ⟨b,off+i*k+j,none⟩=some v)/\inner w x u:=by
 obtain⟨us,h1,⟨a',LO,hv,_,_,h2⟩,h3⟩:=h;injection hv with e1 e2 e3;subst e1;obtain⟨u,hu⟩:∃u,us[i]?=some u:=⟨_,aw (by rw [h1];exact(aM.1 hx).1)⟩;obtain⟨b,off,ha,Lw,hc⟩:=h2 i (x,u) ((cJ (z:=(x,u))).2 ⟨hx,hu⟩);exact⟨b,off,u,ha,Lw,hc,h3 i x u hx hu⟩
end
end
structure eS where
 op:Int
 a:Int
 b:Int
 l:List Int
deriving DecidableEq
def qf (x:eS × Value):List Value:=[.int .i64 x.1.op, .int .i64 x.1.a, .int .i64 x.1.b,x.2]
def eS.ok (x:eS):Prop:=iP x.op/\iP x.a/\iP x.b/\∀n∈x.l,iP n
def gZ (w:World) (x:eS) (u:Value):Prop:=ew 1 fp w u x.l/\x.ok
def gx (w:World) (v:Value) (l:List eS):Prop:=et 4 qf gZ w v l
theorem gZ.below {w w':World} {x:eS} {u:Value} (h:gZ w x u) (hb:Below w.heap.size w w'):gZ w' x u:=⟨h.1.below hb,h.2⟩
theorem gx.below {w w':World} {v:Value} {l:List eS} (h:gx w v l) (hb:Below w.heap.size w w'):gx w' v l:=et.below h hb (fun _ _ h=>h.below hb)
structure gN where
 params:List Int
 results:List Int
deriving DecidableEq
def r9 (x:gN × Value × Value):List Value:=[x.2.1,x.2.2]
def gN.ok (x:gN):Prop:=(∀n∈x.params,iP n)/\∀n∈x.results,iP n
def gW (w:World) (x:gN) (u:Value × Value):Prop:=(ew 1 fp w u.1 x.params/\ew 1 fp w u.2 x.results)/\x.ok
def tl (w:World) (v:Value) (l:List gN):Prop:=et 2 r9 gW w v l
theorem gW.below {w w':World} {x:gN} {u:Value × Value} (h:gW w x u) (hb:Below w.heap.size w w'):gW w' x u:=⟨⟨h.1.1.below hb,h.1.2.below hb⟩,h.2⟩
theorem tl.below {w w':World} {v:Value} {l:List gN} (h:tl w v l) (hb:Below w.heap.size w w'):tl w' v l:=et.below h hb (fun _ _ h=>h.below hb)
structure jt where
 mod:ByteArray
 name:ByteArray
 type:Int
deriving DecidableEq
def tf (x:jt):List Value:=[.string x.mod, .string x.name, .int .i64 x.type]
structure gf where
 has:Bool
 min:Int
 max:Int
deriving DecidableEq
def gf.ok (x:gf):Prop:=iP x.min/\iP x.max
structure jg where
 isVar:Bool
 init:fm
deriving DecidableEq
def td (x:jg):List Value:=[.bool x.isVar, .int .i64 x.init.kind, .int .i64 x.init.n]
structure iO where
 name:ByteArray
 func:Int
deriving DecidableEq
def rz (x:iO):List Value:=[.string x.name, .int .i64 x.func]
structure jb where
 off:Int
 funcs:List Int
deriving DecidableEq
def uM (x:jb × Value):List Value:=[.int .i64 x.1.off,x.2]
def jb.ok (x:jb):Prop:=iP x.off/\∀n∈x.funcs,iP n
def ig (w:World) (x:jb) (u:Value):Prop:=ew 1 fp w u x.funcs/\x.ok
theorem ig.below {w w':World} {x:jb} {u:Value} (h:ig w x u) (hb:Below w.heap.size w w'):ig w' x u:=⟨h.1.below hb,h.2⟩
structure gS where
 locals:List Int
 body:List eS
deriving DecidableEq
def su (x:gS × Value × Value):List Value:=[x.2.1,x.2.2]
def gU (w:World) (x:gS) (u:Value × Value):Prop:=(ew 1 fp w u.1 x.locals/\gx w u.2 x.body)/\∀n∈x.locals,iP n
theorem gU.below {w w':World} {x:gS} {u:Value × Value} (h:gU w x u) (hb:Below w.heap.size w w'):gU w' x u:=⟨⟨h.1.1.below hb,h.1.2.below hb⟩,h.2⟩
structure gD where
 off:Int
 bytes:List UInt8
deriving DecidableEq
def qs (x:gD × Value):List Value:=[.int .i64 x.1.off,x.2]
def gE (w:World) (x:gD) (u:Value):Prop:=eW w u x.bytes/\iP x.off
theorem gE.below {w w':World} {x:gD} {u:Value} (h:gE w x u) (hb:Below w.heap.size w w'):gE w' x u:=⟨h.1.below hb,h.2⟩
structure eI where
 types:List gN
 imports:List jt
 funcs:List Int
 table:gf
 mem:gf
 globals:List jg
 ep:List iO
 elems:List jb
 eA:List gS
 eK:List gD
deriving DecidableEq
def eI.ok (m:eI):Prop:=(∀x∈m.imports,iP x.type)/\(∀n∈m.funcs,iP n)/\m.table.ok/\m.mem.ok/\(∀x∈m.globals,x.init.ok)/\∀x∈m.ep,iP x.func
structure eL where
 types:Value
 imports:Value
 funcs:Value
 globals:Value
 ep:Value
 elems:Value
 eA:Value
 eK:Value
def eL.cells (u:eL) (m:eI):Array Value:=
 #[u.types,u.imports,u.funcs, .bool m.table.has, .int .i64 m.table.min, .int .i64 m.table.max, .bool m.mem.has, .int .i64 m.mem.min, .int .i64 m.mem.max,u.globals,u.ep,u.elems,u.eA,u.eK]
def eD (w:World) (u:eL) (m:eI):Prop:=
 tl w u.types m.types/\ew 3 tf w u.imports m.imports/\ew 1 fp w u.funcs m.funcs/\ew 3 td w u.globals m.globals/\ew 2 rz w u.ep m.ep/\et 2 uM ig w u.elems m.elems/\et 2 su gU w u.eA m.eA/\et 2 qs gE w u.eK m.eK/\m.ok
theorem eD.below {w w':World} {u:eL} {m:eI} (h:eD w u m) (hb:Below w.heap.size w w'):eD w' u m:=by
 obtain⟨h1,h2,h3,h4,h5,h6,h7,h8,h9⟩:=h;exact⟨h1.below hb,h2.below hb,h3.below hb,h4.below hb,h5.below hb,h6.below hb (fun _ _ h=>h.below hb),h7.below hb (fun _ _ h=>h.below hb),h8.below hb (fun _ _ h=>h.below hb),h9⟩
def ml (n a b:Int):Bool:=decide (a <=n)&&decide (n <=b)
theorem kh {n a b:Int}:ml n a b=true↔a <=n/\n <=b:=by simp [ml]
def sO (op:Int):Int × Int:=
 if ml op 69 79 || ml op 103 120 then(1,op)else if ml op 80 90 then(2,op - 80+69)else if ml op 121 138 then(2,op - 121+103)else(0,0)
def fh (op:Int):List Int × Int × Bool:=
 if op=167 then([2],1,true)else if op=172 then([1],2,true)else if op=173 then([1],2,true)else if(sO op).1=0 then([],0,false)else if(sO op).2=69 then([(sO op).1],1,true)
 else if ml (sO op).2 70 79 then([(sO op).1,(sO op).1],1,true)else if ml (sO op).2 103 105 then([(sO op).1],(sO op).1,true)else([(sO op).1,(sO op).1],(sO op).1,true)
theorem A1 {op:Int} (h:(fh op).2.2=true):69 <=op/\op <=173:=by
 unfold fh at h;by_cases h1:op=167
 ·omega
 rw [aC h1]at h;by_cases h2:op=172
 ·omega
 rw [aC h2]at h;by_cases h3:op=173
 ·omega
 rw [aC h3]at h;by_cases h4:(sO op).1=0
 ·rw [aJ h4]at h
  simp at h
 unfold sO at h4;by_cases g1:(ml op 69 79 || ml op 103 120)=true
 ·simp only [Bool.or_eq_true,kh]at g1
  omega
 rw [aC g1]at h4;by_cases g2:ml op 80 90=true
 ·rw [kh]at g2
  omega
 rw [aC g2]at h4;by_cases g3:ml op 121 138=true
 ·rw [kh]at g3
  omega
 rw [aC g3]at h4;exact absurd rfl h4
theorem tO (u:Nat) (rest:List UInt8) (hu:u < 4294967296):ix 32 (eY u++rest)=(u,(eY u).length,0):=by
 obtain⟨p,z,h1,h2,h3,h4⟩:=rH 9 u (by omega);change eY u=p++[z]at h1;have hp:p.length <=4:=by
  rcases so 10 u (by omega)with h | h
  ·change(eY u).length <=1 at h
   rw [h1]at h;simp at h;simp [h]
  ·change 128^((eY u).length - 1) <=u at h
   rw [h1,ah,aB,dh]at h;rcases bD 4 p.length with g | g
   ·have:(128:Nat)^5 <=128^p.length:=cQ (by omega) g
    omega
   ·exact g
 have hl:fo 32 (eY u++rest)=((eY u).length,0):=by
  rw [h1,aP,dK];unfold fo;rw [aC (by omega),oL p z rest h2 h3,aC (by omega),aC (by simp)];simp
 unfold ix;rw [hl,aC (by simp)];have ht:(eY u++rest).take (eY u).length=eY u:=cP;simp only [ht];rw [si (by omega),aJ ⟨rfl,by simpa using hu⟩]
theorem Ca (n:Int) (rest:List UInt8) (h0: -2147483648 <=n) (h1:n <=2147483647):jF 32 (iy n++rest)=(n,(iy n).length,0):=by
 obtain⟨p,z,e1,e2,e3,e4⟩:=pA 9 n (by omega) (by omega);change iy n=p++[z]at e1;have hp:p.length <=4:=by
  rcases Dy 9 n (by omega) (by omega)with h | ⟨-,h⟩
  ·change(iy n).length=1 at h
   rw [e1]at h;simp at h;simp [h]
  ·change ¬ (-(64*128^((iy n).length - 2)) <=n/\n < 64*128^((iy n).length - 2))at h
   rw [e1,ah,aB]at h;rcases bD 4 p.length with g | g
   ·exfalso
    apply h;have h5:(128:Nat)^4 <=128^(p.length+1 - 2):=cQ (by omega) (by omega);have h6:(128:Int)^4 <=128^(p.length+1 - 2):=by
     have:=Int.ofNat_le.2 h5;simpa using this
    have h7:(128:Int)^4=268435456:=by decide
    constructor <;>omega
   ·exact g
 have hl:fo 32 (iy n++rest)=((iy n).length,0):=by
  rw [e1,aP,dK];unfold fo;rw [aC (by omega),oL p z rest e2 e3,aC (by omega),aC (by simp)];simp
 unfold jF;rw [hl,aC (by simp)];have ht:(iy n++rest).take (iy n).length=iy n:=cP;simp only [ht];have h2:n < 9223372036854775808:=by omega
 rw [rV (by omega) h2,aJ ⟨rfl,by simpa using h0,by simp;omega⟩]
def fT (op:Int):Nat:=
 if op=0\/op=1\/op=5\/op=11\/op=15\/op=26\/op=27 then 1
 else if op=2\/op=3\/op=4 then 2
 else if op=12\/op=13\/op=16\/op=32\/op=33\/op=34\/op=35\/op=36 then 3
 else if op=14 then 4
 else if op=17 then 5
 else if op=40\/op=41\/op=44\/op=45\/op=54\/op=55\/op=58 then 6
 else if op=63\/op=64 then 7
 else if op=65 then 8
 else if op=66 then 9
 else if(fh op).2.2=true then 1 else 0
theorem wD {op:Int} (h:fT op≠0):0 <=op/\op <=173:=by
 unfold fT at h
 repeat (split at h;·omega)
 rename_i hk;split at h
 ·rename_i hk
  have:=A1 hk;omega
 ·exact absurd rfl h
theorem od (op:Int):fT op <=9:=by
 unfold fT
 repeat (split;·omega)
 omega
def gp (n:Int):Prop:=0 <=n/\n <=1000
instance (n:Int):Decidable (gp n):=by unfold gp;infer_instance
def eS.may (x:eS):Prop:=
 (fT x.op≠4 ->x.l=[])/\(fT x.op≠6 ->x.b=0)/\
 (fT x.op=1/\x.a=0\/fT x.op=2/\(0 <=x.a/\x.a <=2)\/fT x.op=3/\gp x.a\/fT x.op=4/\(gp x.a/\x.l.length <=50/\∀n∈x.l,gp n)\/fT x.op=5/\gp x.a\/
  fT x.op=6/\((0 <=x.a/\x.a <=3)/\0 <=x.b/\x.b <=4294967295)\/fT x.op=7/\x.a=0\/fT x.op=8/\(-2147483648 <=x.a/\x.a <=2147483647)\/fT x.op=9)
instance (x:eS):Decidable x.may:=by unfold eS.may;infer_instance
def gz (x:eS):List UInt8:=
 match fT x.op with
 | 2=>[if x.a=0 then 0x40 else if x.a=1 then 0x7f else 0x7e]
 | 3=>eY x.a.toNat
 | 4=>eY x.l.length++((x.l.map fun n=>eY n.toNat).flatten++eY x.a.toNat)
 | 5=>eY x.a.toNat++[0]
 | 6=>eY x.a.toNat++eY x.b.toNat
 | 7=>[0]
 | 8=>iy x.a
 | 9=>iy x.a
 | _=>[]
def iC (x:eS):List UInt8:=b8 (x.op.toNat %256)::gz x
def lH (NO:Nat) (l:List UInt8):Option (Nat × List UInt8):=if(ix 32 l).2.2=0/\(ix 32 l).1 <=NO then some ((ix 32 l).1,l.drop (ix 32 l).2.1)else none
def A6 (bits:Int) (l:List UInt8):Option (Int × List UInt8):=if(jF bits l).2.2=0 then some ((jF bits l).1,l.drop (jF bits l).2.1)else none
def pr:List UInt8 ->Option (List UInt8)
 | 0::l=>some l
 | _=>none
def pq (NO:Nat):Nat ->List UInt8 ->Option (List Int × List UInt8)
 | 0,l=>some ([],l)
 | n+1,l=>(lH NO l).bind fun x=>(pq NO n x.2).bind fun y=>some ((x.1:Int)::y.1,y.2)
def sN:List UInt8 ->Option (Int × List UInt8)
 | 0x40::l=>some (0,l)
 | 0x7f::l=>some (1,l)
 | 0x7e::l=>some (2,l)
 | _=>none
def gG:List UInt8 ->Option (eS × List UInt8)
 | []=>none
 | c::l=>match fT c.toNat with
  | 1=>some (⟨c.toNat,0,0,[]⟩,l)
  | 2=>(sN l).bind fun x=>some (⟨c.toNat,x.1,0,[]⟩,x.2)
  | 3=>(lH 1000 l).bind fun x=>some (⟨c.toNat,x.1,0,[]⟩,x.2)
  | 4=>(lH 50 l).bind fun n=>(pq 1000 n.1 n.2).bind fun t=>(lH 1000 t.2).bind fun x=>some (⟨c.toNat,x.1,0,t.1⟩,x.2)
  | 5=>(lH 1000 l).bind fun x=>(pr x.2).bind fun r=>some (⟨c.toNat,x.1,0,[]⟩,r)
  | 6=>(lH 3 l).bind fun x=>(lH 4294967295 x.2).bind fun y=>some (⟨c.toNat,x.1,y.1,[]⟩,y.2)
  | 7=>(pr l).bind fun r=>some (⟨c.toNat,0,0,[]⟩,r)
  | 8=>(A6 32 l).bind fun x=>some (⟨c.toNat,x.1,0,[]⟩,x.2)
  | 9=>(A6 64 l).bind fun x=>some (⟨c.toNat,x.1,0,[]⟩,x.2)
  | _=>none
theorem nu {NO n:Nat} (r:List UInt8) (h:n <=NO) (hl:NO < 4294967296):lH NO (eY n++r)=some (n,r):=by
 unfold lH;rw [tO n r (by omega)];simp [h]
theorem xx {NO:Nat} (hl:NO < 4294967296):∀(l:List Int) (r:List UInt8),(∀n∈l,0 <=n/\n <=NO) ->pq NO l.length ((l.map fun n=>eY n.toNat).flatten++r)=some (l,r)
 | [],r,_=>rfl
 | n::l,r,h=>by
  obtain⟨h0,h1⟩:=h n (by simp);rw [bG,bT,aP,aF,pq,nu _ (by omega) hl];simp only [az,xx hl l r (fun x hx=>h x (by simp [hx]))];have:((n.toNat:Nat):Int)=n:=by omega
  rw [this]
theorem D6 (n:Int) (r:List UInt8) (h:iP n):A6 64 (iy n++r)=some (n,r):=by
 unfold A6;rw [vu n r h.1 h.2];simp
theorem DG (n:Int) (r:List UInt8) (h0: -2147483648 <=n) (h1:n <=2147483647):A6 32 (iy n++r)=some (n,r):=by
 unfold A6;rw [Ca n r h0 h1];simp
theorem oK (x:eS) (r:List UInt8) (hm:x.may) (ho:x.ok):gG (iC x++r)=some (x,r):=by
 obtain⟨op,a,b,l⟩:=x;obtain⟨m1,m2,m3⟩:=hm;simp only at m1 m2 m3;have hf:fT op≠0:=by
  rcases m3 with h | h | h | h | h | h | h | h | h <;>first | (rw [h.1];decide) | (rw [h];decide)
 obtain⟨o1,o2⟩:=wD hf;have hc:((b8 (op.toNat %256)).toNat:Int)=op:=by
  rw [fY (Nat.mod_lt _ (by omega))];omega
 have key:gG (iC ⟨op,a,b,l⟩++r)=(match fT op with
  | 1=>some (⟨op,0,0,[]⟩,gz ⟨op,a,b,l⟩++r)
  | 2=>(sN (gz ⟨op,a,b,l⟩++r)).bind fun x=>some (⟨op,x.1,0,[]⟩,x.2)
  | 3=>(lH 1000 (gz ⟨op,a,b,l⟩++r)).bind fun x=>some (⟨op,x.1,0,[]⟩,x.2)
  | 4=>(lH 50 (gz ⟨op,a,b,l⟩++r)).bind fun n=>(pq 1000 n.1 n.2).bind fun t=>(lH 1000 t.2).bind fun x=>some (⟨op,x.1,0,t.1⟩,x.2)
  | 5=>(lH 1000 (gz ⟨op,a,b,l⟩++r)).bind fun x=>(pr x.2).bind fun r=>some (⟨op,x.1,0,[]⟩,r)
  | 6=>(lH 3 (gz ⟨op,a,b,l⟩++r)).bind fun x=>(lH 4294967295 x.2).bind fun y=>some (⟨op,x.1,y.1,[]⟩,y.2)
  | 7=>(pr (gz ⟨op,a,b,l⟩++r)).bind fun r=>some (⟨op,0,0,[]⟩,r)
  | 8=>(A6 32 (gz ⟨op,a,b,l⟩++r)).bind fun x=>some (⟨op,x.1,0,[]⟩,x.2)
  | 9=>(A6 64 (gz ⟨op,a,b,l⟩++r)).bind fun x=>some (⟨op,x.1,0,[]⟩,x.2)
  | _=>none):=by
  show(match fT ((b8 (op.toNat %256)).toNat:Int)with | 1=>_ | 2=>_ | 3=>_ | 4=>_ | 5=>_ | 6=>_ | 7=>_ | 8=>_ | 9=>_ | _=>_)=_;rw [hc];rfl
 rw [key];rcases m3 with⟨h,h1⟩ | ⟨h,h1,h2⟩ | ⟨h,h1,h2⟩ | ⟨h,⟨h1,h2⟩,h3,h4⟩ | ⟨h,h1,h2⟩ | ⟨h,⟨h1,h2⟩,h3,h4⟩ | ⟨h,h1⟩ | ⟨h,h1,h2⟩ | h
 all_goals
  unfold gz;simp only [h]
 ·rw [h1,m1 (by omega),m2 (by omega)]
  rfl
 ·rw [m1 (by omega),m2 (by omega)]
  rcases(show a=0\/a=1\/a=2 by omega)with rfl | rfl | rfl <;>rfl
 ·rw [nu r (by omega) (by omega),m1 (by omega),m2 (by omega)]
  have:((a.toNat:Nat):Int)=a:=by omega
  simp [this]
 ·rw [aP,aP,nu _ (by omega) (by omega)]
  simp only [az];rw [xx (by omega) l _ (fun n hn=>by have:=h4 n hn;exact⟨this.1,by have:=this.2;omega⟩)];simp only [az];rw [nu r (by omega) (by omega),m2 (by omega)];have:((a.toNat:Nat):Int)=a:=by omega
  simp [this]
 ·rw [aP,nu _ (by omega) (by omega),m1 (by omega),m2 (by omega)]
  have:((a.toNat:Nat):Int)=a:=by omega
  simp [this,pr]
 ·rw [aP,nu _ (by omega) (by omega)]
  simp only [az];rw [nu _ (by omega) (by omega),m1 (by omega)];have e1:((a.toNat:Nat):Int)=a:=by omega
  have e2:((b.toNat:Nat):Int)=b:=by omega
  simp [e1,e2]
 ·rw [h1,m1 (by omega),m2 (by omega)]
  rfl
 ·rw [DG a r h1 h2,m1 (by omega),m2 (by omega)]
  rfl
 ·rw [D6 a r ho.2.1,m1 (by omega),m2 (by omega)]
  rfl
structure iR where
 pos:Int
 JS:Int
 fin:Int
deriving DecidableEq
def sQ (b:iR):List Value:=[.int .i64 b.pos, .int .i64 b.JS, .int .i64 b.fin]
def kJ (op:Int):Bool:=op==2 || op==3 || op==4
def fO (l:List eS) (i:Nat) (x:eS) (st:List iR × List Nat):Option (List iR × List Nat):=
 if kJ x.op then(if st.2.length=40 then none else some (st.1++[⟨i,-1,-1⟩],st.2++[st.1.length]))
 else if x.op≠5/\x.op≠11 then some st
 else match st.2.getLast? with
  | none=>none
  | some k=>match st.1[k]? with
   | none=>none
   | some b=>if x.op=11 then some (st.1.set k {b with fin:=i},st.2.dropLast)
    else match l[b.pos.toNat]? with
     | none=>none
     | some y=>if y.op≠4\/0 <=b.JS then none else some (st.1.set k {b with JS:=i},st.2)
def gH (l:List eS):List eS ->Nat ->List iR × List Nat ->Option (List iR × List Nat)
 | [],_,st=>some st
 | x::rest,i,st=>(fO l i x st).bind fun Ob=>gH l rest (i+1) Ob
def fI (l:List eS):Option (List iR):=
 if 300 < l.length then none else(gH l l 0 ([],[])).bind fun st=>if st.2=[]then some st.1 else none
def mT (l:List eS):List UInt8:=(l.map iC).flatten++[11]
def iw (op deep:Int):Int:=if op=11 then deep - 1 else if kJ op then deep+1 else deep
def kH:Nat ->List eS ->Int ->List UInt8 ->Option (List eS × List UInt8)
 | 0,_,_,_=>none
 | f+1,acc,deep,l=>(gG l).bind fun x=>
  if iw x.1.op deep < 0 then(if(fI acc).isSome then some (acc,x.2)else none)else if 300 < acc.length+1 then none else kH f (acc++[x.1]) (iw x.1.op deep) x.2
def lE (l:List UInt8):Option (List eS × List UInt8):=kH 301 [] 0 l
theorem qj {l:List eS} {i:Nat} {x:eS} {st Ob:List iR × List Nat} (h:fO l i x st=some Ob):0 <=iw x.op st.2.length/\(Ob.2.length:Int)=iw x.op st.2.length:=by
 unfold fO at h;unfold iw;by_cases h1:kJ x.op=true
 ·rw [aJ h1]at h
  have h11:x.op≠11:=by
   intro e;rw [e]at h1;simp [kJ]at h1
  rw [aC h11,aJ h1];split at h
  ·cases h
  ·injection h with h
   subst h;simp;omega
 rw [aC h1]at h;by_cases h2:x.op≠5/\x.op≠11
 ·rw [aJ h2]at h
  injection h with h;subst h;rw [aC h2.2,aC h1];exact⟨by omega,rfl⟩
 rw [aC h2]at h;cases hg:st.2.getLast? with
 | none=>rw [hg]at h;cases h
 | some k=>
  rw [hg]at h;have hl:1 <=st.2.length:=by
   rcases aY st.2.length with g | g
   ·rw [aH g]at hg
    simp at hg
   ·exact g
  simp only at h;cases hb:st.1[k]? with
  | none=>rw [hb]at h;cases h
  | some b=>
   rw [hb]at h;simp only at h;by_cases h3:x.op=11
   ·rw [aJ h3]at h
    injection h with h;subst h;rw [aJ h3];simp only [cR];omega
   ·rw [aC h3]at h
    rw [aC h3,aC h1];cases hy:l[b.pos.toNat]? with
    | none=>rw [hy]at h;cases h
    | some y=>
     rw [hy]at h;simp only at h;split at h
     ·cases h
     ·injection h with h
      subst h;exact⟨by omega,rfl⟩
theorem AY (r:List UInt8):gG (11::r)=some (⟨11,0,0,[]⟩,r):=by
 have h:=oK ⟨11,0,0,[]⟩ r (by decide) ⟨⟨by decide,by decide⟩,⟨by decide,by decide⟩,⟨by decide,by decide⟩,by simp⟩;have e:iC ⟨11,0,0,[]⟩=[11]:=by decide
 rw [e]at h;exact h
theorem ur {body:List eS} (hm:(fI body).isSome=true) (hl:body.length <=300) (r:List UInt8):∀(rest acc:List eS) (i:Nat) (st Ob:List iR × List Nat) (f:Nat),acc++rest=body ->gH body rest i st=some Ob ->Ob.2=[] ->
  (∀x∈rest,x.may/\x.ok) ->acc.length+f=301 ->kH f acc st.2.length ((rest.map iC).flatten++11::r)=some (body,r)
 | [],acc,i,st,Ob,f,ha,hg,he,_,hf=>by
  rw [bO]at ha;subst ha;injection hg with hg;subst hg;obtain⟨f,rfl⟩:∃f',f=f'+1:=⟨f - 1,by omega⟩;rw [cV,List.flatten_nil,bL,kH,AY];simp only [az];rw [he,aJ (by simp [iw]),aJ hm]
 | x::rest,acc,i,st,Ob,f,ha,hg,he,hx,hf=>by
  have hla:acc.length+rest.length+1 <=300:=by
   rw [<- ha]at hl;simp at hl;omega
  obtain⟨f,rfl⟩:∃f',f=f'+1:=⟨f - 1,by omega⟩;rw [gH]at hg;cases hs:fO body i x st with
  | none=>rw [hs]at hg;cases hg
  | some RQ=>
   rw [hs]at hg;simp only [az]at hg;obtain⟨d0,d1⟩:=qj hs;obtain⟨m1,m2⟩:=hx x (by simp);rw [bG,bT,aP,kH,oK x _ m1 m2];simp only [az];rw [aC (by omega),aC (by omega), <- d1];exact ur hm hl r rest (acc++[x]) (i+1) RQ Ob f (by simp [ha]) hg he (fun y hy=>hx y (by simp [hy])) (by simp;omega)
theorem Dn (l:List eS) (r:List UInt8) (hm:(fI l).isSome=true) (hx:∀x∈l,x.may/\x.ok):lE (mT l++r)=some (l,r):=by
 have hm':=hm;unfold fI at hm;split at hm
 ·cases hm
 ·rename_i hl
  cases hg:gH l l 0 ([],[])with
  | none=>rw [hg]at hm;cases hm
  | some st=>
   rw [hg]at hm;simp only [az]at hm;split at hm
   ·rename_i he
    have:=ur hm' (by omega) r l [] 0 ([],[]) st 301 rfl hg he hx rfl;rw [lE,mT,aP];exact this
   ·cases hm
abbrev je (α:Type):=List UInt8 ->Option (α × List UInt8)
def gq:je Nat:=fun l=>if(ix 32 l).2.2=0 then some ((ix 32 l).1,l.drop (ix 32 l).2.1)else none
theorem lk (n:Nat) (r:List UInt8) (h:n < 4294967296):gq (eY n++r)=some (n,r):=by
 unfold gq;rw [tO n r h];simp
def fk:je UInt8
 | []=>none
 | c::l=>some (c,l)
def mD:je (List UInt8):=fun l=>(gq l).bind fun n=>if n.2.length < n.1 then none else some (n.2.take n.1,n.2.drop n.1)
theorem y7 (b r:List UInt8) (h:b.length < 4294967296):mD (eY b.length++(b++r))=some (b,r):=by
 unfold mD;rw [lk _ _ h];simp only [az];rw [aC (by simp)];simp
def sh {α:Type} (get:je α):Nat ->je (List α)
 | 0,l=>some ([],l)
 | n+1,l=>(get l).bind fun x=>(sh get n x.2).bind fun y=>some (x.1::y.1,y.2)
def fC {α:Type} (get:je α):je (List α):=fun l=>(gq l).bind fun n=>sh get n.1 n.2
def ff {α:Type} (put:α ->List UInt8) (l:List α):List UInt8:=eY l.length++(l.map put).flatten
theorem Ac {α:Type} {get:je α} {put:α ->List UInt8}:∀(l:List α) (r:List UInt8),(∀x∈l,∀r,get (put x++r)=some (x,r)) ->sh get l.length ((l.map put).flatten++r)=some (l,r)
 | [],r,_=>rfl
 | x::l,r,h=>by
  rw [bG,bT,aP,aF,sh,h x (by simp)];simp only [az,Ac l r (fun y hy=>h y (by simp [hy]))]
theorem oh {α:Type} {get:je α} {put:α ->List UInt8} (l:List α) (r:List UInt8) (hl:l.length < 4294967296) (h:∀x∈l,∀r,get (put x++r)=some (x,r)):fC get (ff put l++r)=some (l,r):=by
 unfold fC ff;rw [aP,lk _ _ hl];exact Ac l r h
def kindOk (k:Int):Prop:=k=1\/k=2
instance (k:Int):Decidable (kindOk k):=by unfold kindOk;infer_instance
def jw (k:Int):List UInt8:=[if k=1 then 0x7f else 0x7e]
def gT:je Int
 | 0x7f::l=>some (1,l)
 | 0x7e::l=>some (2,l)
 | _=>none
theorem oS {k:Int} (h:kindOk k) (r:List UInt8):gT (jw k++r)=some (k,r):=by
 rcases h with rfl | rfl <;>rfl
def pa (s:ByteArray):List UInt8:=eY s.data.toList.length++s.data.toList
def jQ:je ByteArray:=fun l=>(mD l).bind fun x=>some (bs x.1,x.2)
theorem ss (s:ByteArray) (r:List UInt8) (h:s.data.toList.length < 4294967296):jQ (pa s++r)=some (s,r):=by
 unfold jQ pa;rw [aP,y7 _ _ h];obtain⟨⟨l⟩⟩:=s;rfl
def mw (v:fm):List UInt8:=iC ⟨if v.kind=2 then 66 else 65,v.n,0,[]⟩++[11]
def gR:je fm:=fun l=>(gG l).bind fun x=>if x.1.op=65\/x.1.op=66 then(fk x.2).bind fun c=>some (⟨if x.1.op=66 then 2 else 1,x.1.a⟩,c.2)else none
theorem yD:iP 0:=⟨by decide,by decide⟩
theorem I7 (n:Int):eS.may ⟨66,n,0,[]⟩:=⟨fun _=>rfl,fun _=>rfl,by
 right;right;right;right;right;right;right;right
 show fT 66=9
 decide⟩
theorem Ex {n:Int} (h1: -2147483648 <=n) (h2:n <=2147483647):eS.may ⟨65,n,0,[]⟩:=⟨fun _=>rfl,fun _=>rfl,by
 right;right;right;right;right;right;right;left
 exact⟨by show fT 65=8;decide,h1,h2⟩⟩
theorem vG {v:fm} (hm:v.may) (ho:v.ok) (r:List UInt8):gR (mw v++r)=some (v,r):=by
 obtain⟨k,n⟩:=v;have h66:iP 66:=⟨by decide,by decide⟩;have h65:iP 65:=⟨by decide,by decide⟩;unfold gR mw;rcases hm with hk | ⟨hk,h1,h2⟩
 ·simp only at hk
  subst hk;have e:gG (iC ⟨66,n,0,[]⟩++([11]++r))=some (⟨66,n,0,[]⟩,[11]++r):=oK ⟨66,n,0,[]⟩ _ (I7 n) ⟨h66,ho.2,yD,by simp⟩;rw [aJ rfl,aP,e];rfl
 ·simp only at hk h1 h2
  subst hk;have e:gG (iC ⟨65,n,0,[]⟩++([11]++r))=some (⟨65,n,0,[]⟩,[11]++r):=oK ⟨65,n,0,[]⟩ _ (Ex h1 h2) ⟨h65,ho.2,yD,by simp⟩;rw [aC (by show ¬ (1:Int)=2;decide),aP,e];rfl
def mC (n:Int):Prop:= -2147483648 <=n/\n <=2147483647
instance (n:Int):Decidable (mC n):=by unfold mC;infer_instance
def nL (n:Int):List UInt8:=0::mw ⟨1,n⟩
def jA:je Int:=fun l=>(fk l).bind fun c=>(gR c.2).bind fun v=>some (v.1.n,v.2)
theorem uk {n:Int} (h:mC n) (r:List UInt8):jA (nL n++r)=some (n,r):=by
 unfold jA nL;rw [bI];simp only [fk,az];rw [vG (v:=⟨1,n⟩) (.inr ⟨rfl,h.1,h.2⟩) ⟨⟨by show(-9223372036854775808:Int) <=1;decide,by show(1:Int) <=9223372036854775807;decide⟩,by have:=h.1;show(-9223372036854775808:Int) <=n;omega,by have:=h.2;show n <=(9223372036854775807:Int);omega⟩];rfl
def gQ (x:gf):List UInt8:=if x.max < 0 then 0::eY x.min.toNat else 1::(eY x.min.toNat++eY x.max.toNat)
def gy:je gf:=fun l=>(fk l).bind fun c=>(gq c.2).bind fun n=>if c.1=0 then some (⟨true,n.1,-1⟩,n.2)else(gq n.2).bind fun m=>some (⟨true,n.1,m.1⟩,m.2)
def gf.may (least fB:Int) (x:gf):Prop:=if x.has=true then(0 <=x.min/\x.min <=least)/\ -1 <=x.max/\x.max <=fB else x.min=0/\x.max=0
instance (least fB:Int) (x:gf):Decidable (x.may least fB):=by unfold gf.may;infer_instance
theorem AM {least fB:Int} {x:gf} (hh:x.has=true) (hm:x.may least fB) (hl:least <=100000) (hmo:fB <=100000) (r:List UInt8):gy (gQ x++r)=some (x,r):=by
 obtain⟨has,mn,mx⟩:=x;simp only at hh;subst hh;unfold gf.may at hm;rw [aJ rfl]at hm;obtain⟨⟨h1,h2⟩,h3,h4⟩:=hm;simp only at h1 h2 h3 h4;have e1:((mn.toNat:Nat):Int)=mn:=by omega
 unfold gy gQ;by_cases hx:mx < 0
 ·rw [aJ hx,bI]
  simp only [fk,az];rw [lk _ _ (by omega)];have:mx= -1:=by omega
  simp [e1,this]
 ·rw [aC hx,bI,aP]
  simp only [fk,az];rw [lk _ _ (by omega)];simp only [az];rw [aC (by decide),lk _ _ (by omega)];have e2:((mx.toNat:Nat):Int)=mx:=by omega
  simp [e1,e2]
def gL:List Int ->List (Nat × Int)
 | []=>[]
 | k::l=>match gL l with
  | []=>[(1,k)]
  | (n,k')::t=>if k=k' then(n+1,k')::t else(1,k)::(n,k')::t
def jc (l:List (Nat × Int)):List Int:=(l.map fun x=>List.replicate x.1 x.2).flatten
theorem sB:∀l:List Int,jc (gL l)=l
 | []=>rfl
 | k::l=>by
  have ih:=sB l;rw [gL];cases hr:gL l with
  | nil=>
   rw [hr]at ih;simp only [jc]at ih⊢;simp at ih⊢;exact ih
  | cons x t=>
   obtain⟨n,k'⟩:=x;rw [hr]at ih;simp only;split
   ·rename_i h
    subst h;simp only [jc,bG,bT]at ih⊢;rw [List.replicate_succ,bI,ih]
   ·simp only [jc,bG,bT]at ih⊢
    rw [ih];rfl
theorem re:∀(l:List Int) (x:Nat × Int),x∈gL l ->x.2∈l/\x.1 <=l.length
 | [],x,h=>by simp [gL]at h
 | k::l,x,h=>by
  have ih:=re l;rw [gL]at h;cases hr:gL l with
  | nil=>
   rw [hr]at h;simp at h;subst h;simp
  | cons y t=>
   obtain⟨n,k'⟩:=y;rw [hr]at h ih;simp only at h;split at h
   ·rename_i hk
    rcases bB.1 h with rfl | h
    ·have:=ih (n,k') (by simp)
     exact⟨by simp [this.1],by simp only [aF];have:=this.2;simp only at this;omega⟩
    ·have:=ih x (by simp [h])
     exact⟨by simp [this.1],by simp only [aF];omega⟩
   ·rcases bB.1 h with rfl | h
    ·simp
    ·have:=ih x h
     exact⟨by simp [this.1],by simp only [aF];omega⟩
theorem px (l:List Int):(gL l).length <=l.length:=by
 induction l with
 | nil=>simp [gL]
 | cons k l ih=>
  rw [gL];cases hr:gL l with
  | nil=>simp
  | cons y t=>
   obtain⟨n,k'⟩:=y;rw [hr]at ih;simp only;split <;>simp only [aF]at ih⊢ <;>omega
def xK (x:Nat × Int):List UInt8:=eY x.1++jw x.2
def my:je (Nat × Int):=fun l=>(gq l).bind fun n=>(gT n.2).bind fun k=>if 32 < n.1 then none else some ((n.1,k.1),k.2)
def kD (l:List Int):List UInt8:=ff xK (gL l)
def jR:je (List Int):=fun l=>(fC my l).bind fun x=>some (jc x.1,x.2)
theorem zF {l:List Int} (hl:l.length <=32) (hk:∀k∈l,kindOk k) (r:List UInt8):jR (kD l++r)=some (l,r):=by
 unfold jR kD;have:=px l;rw [oh (put:=xK) (gL l) r (by omega) (fun x hx r=>by
  obtain⟨h1,h2⟩:=re l x hx;unfold my xK;rw [aP,lk _ _ (by omega)];simp only [az];rw [oS (hk _ h1)];simp only [az];rw [aC (by omega)])]
 simp [sB]
def gS.may (x:gS):Prop:=(fI x.body).isSome=true/\(x.locals.length <=32/\∀k∈x.locals,kindOk k)/\x.body.length <=300/\∀y∈x.body,y.may
def mB (x:gS):List UInt8:=kD x.locals++mT x.body
def iE (x:gS):List UInt8:=eY (mB x).length++mB x
def mq:je gS:=fun l=>(gq l).bind fun n=>(jR n.2).bind fun k=>(lE k.2).bind fun b=>some (⟨k.1,b.1⟩,b.2)
theorem DR {x:gS} (hm:x.may) (ho:∀y∈x.body,y.ok) (hs:(mB x).length < 4294967296) (r:List UInt8):mq (iE x++r)=some (x,r):=by
 obtain⟨m1,⟨m2,m3⟩,m4,m5⟩:=hm;unfold mq iE;rw [aP,lk _ _ hs];simp only [az,mB];rw [aP,zF m2 m3];simp only [az];rw [Dn _ _ m1 (fun y hy=>⟨m5 y hy,ho y hy⟩)];rfl
def kk (s:ByteArray):Prop:=s.data.toList≠[]/\s.data.toList.length <=16/\∀c∈s.data.toList,32 <=c.toNat/\c.toNat <=126
instance (s:ByteArray):Decidable (kk s):=by unfold kk;infer_instance
def lh (t:gN):List UInt8:=0x60::(ff jw t.params++ff jw t.results)
def pg:je gN:=fun l=>(fk l).bind fun c=>(fC gT c.2).bind fun p=>(fC gT p.2).bind fun q=>some (⟨p.1,q.1⟩,q.2)
def gN.may (t:gN):Prop:=(t.params.length <=32/\∀k∈t.params,kindOk k)/\t.results.length <=1/\∀k∈t.results,kindOk k
theorem Dx {t:gN} (h:t.may) (r:List UInt8):pg (lh t++r)=some (t,r):=by
 obtain⟨⟨h1,h2⟩,h3,h4⟩:=h;unfold pg lh;rw [bI,aP];simp only [fk,az];rw [oh _ _ (by omega) (fun k hk r=>oS (h2 k hk) r)];simp only [az];rw [oh _ _ (by omega) (fun k hk r=>oS (h4 k hk) r)];rfl
def sb (n:Int):List UInt8:=eY n.toNat
def vN:je Int:=fun l=>(gq l).bind fun n=>some ((n.1:Int),n.2)
theorem tB {n:Int} (h:gp n) (r:List UInt8):vN (sb n++r)=some (n,r):=by
 obtain⟨h1,h2⟩:=h;unfold vN sb;rw [lk _ _ (by omega)];have:((n.toNat:Nat):Int)=n:=by omega
 simp [this]
def nQ (x:jt):List UInt8:=pa x.mod++(pa x.name++(0::sb x.type))
def uZ:je jt:=fun l=>(jQ l).bind fun a=>(jQ a.2).bind fun b=>(fk b.2).bind fun c=>(vN c.2).bind fun n=>some (⟨a.1,b.1,n.1⟩,n.2)
def jt.may (x:jt):Prop:=kk x.mod/\kk x.name/\gp x.type
theorem Gn {x:jt} (h:x.may) (r:List UInt8):uZ (nQ x++r)=some (x,r):=by
 obtain⟨⟨_,h1,_⟩,⟨_,h2,_⟩,h3⟩:=h;unfold uZ nQ;rw [aP,ss _ _ (by omega)];simp only [az];rw [aP,ss _ _ (by omega)];simp only [az,bI,fk];rw [tB h3];rfl
def jC (x:gf):List UInt8:=0x70::gQ x
def lx:je gf:=fun l=>(fk l).bind fun c=>gy c.2
def kV (x:jg):List UInt8:=jw x.init.kind++((if x.isVar=true then 1 else 0)::mw x.init)
def pM:je jg:=fun l=>(gT l).bind fun k=>(fk k.2).bind fun c=>(gR c.2).bind fun v=>some (⟨c.1 !=0,v.1⟩,v.2)
theorem C8 {x:jg} (h:x.init.may) (ho:x.init.ok) (r:List UInt8):pM (kV x++r)=some (x,r):=by
 obtain⟨v,i⟩:=x;have hk:kindOk i.kind:=by
  rcases h with h | ⟨h,_⟩
  ·exact .inr h
  ·exact .inl h
 unfold pM kV;rw [aP,oS hk];simp only [az,bI,fk];rw [vG h ho];cases v <;>rfl
def oo (x:iO):List UInt8:=pa x.name++(0::sb x.func)
def um:je iO:=fun l=>(jQ l).bind fun a=>(fk a.2).bind fun c=>(vN c.2).bind fun n=>some (⟨a.1,n.1⟩,n.2)
def iO.may (x:iO):Prop:=kk x.name/\gp x.func
theorem E7 {x:iO} (h:x.may) (r:List UInt8):um (oo x++r)=some (x,r):=by
 obtain⟨⟨_,h1,_⟩,h3⟩:=h;unfold um oo;rw [aP,ss _ _ (by omega)];simp only [az,bI,fk];rw [tB h3];rfl
def kZ (x:jb):List UInt8:=nL x.off++ff sb x.funcs
def pk:je jb:=fun l=>(jA l).bind fun n=>(fC vN n.2).bind fun t=>some (⟨n.1,t.1⟩,t.2)
def jb.may (x:jb):Prop:=mC x.off/\x.funcs.length <=50/\∀n∈x.funcs,gp n
theorem DW {x:jb} (h:x.may) (r:List UInt8):pk (kZ x++r)=some (x,r):=by
 obtain⟨h1,h2,h3⟩:=h;unfold pk kZ;rw [aP,uk h1];simp only [az];rw [oh _ _ (by omega) (fun k hk r=>tB (h3 k hk) r)];rfl
def oa (x:gD):List UInt8:=nL x.off++(eY x.bytes.length++x.bytes)
def uz:je gD:=fun l=>(jA l).bind fun n=>(mD n.2).bind fun b=>some (⟨n.1,b.1⟩,b.2)
def gD.may (x:gD):Prop:=mC x.off/\x.bytes.length <=1000
theorem Gc {x:gD} (h:x.may) (r:List UInt8):uz (oa x++r)=some (x,r):=by
 obtain⟨h1,h2⟩:=h;unfold uz oa;rw [aP,uk h1];simp only [az];rw [aP,y7 _ _ (by omega)];rfl
def fM {α:Type} (no:UInt8) (put:α ->List UInt8) (l:List α):List UInt8:=match l with
 | []=>[]
 | _=>no::(eY (ff put l).length++ff put l)
def oneOf (x:gf):List gf:=if x.has=true then [x]else []
def fL:List UInt8:=[0,0x61,0x73,0x6d,1,0,0,0]
def pK (m:eI):List UInt8:=
 fM 1 lh m.types++(fM 2 nQ m.imports++(fM 3 sb m.funcs++(fM 4 jC (oneOf m.table)++(fM 5 gQ (oneOf m.mem)++(fM 6 kV m.globals++(fM 7 oo m.ep++(fM 9 kZ m.elems++(fM 10 iE m.eA++fM 11 oa m.eK))))))))
def fJ (m:eI):List UInt8:=fL++pK m
def m0:eI:=⟨[],[],[],⟨false,0,0⟩,⟨false,0,0⟩,[],[],[],[],[]⟩
def kg (l:List gf):gf:=match l with
 | []=>⟨false,0,0⟩
 | x::_=>x
def kb (no:Nat) (m:eI) (l:List UInt8):Option (eI × List UInt8):=match no with
 | 1=>(fC pg l).bind fun x=>some ({m with types:=x.1},x.2)
 | 2=>(fC uZ l).bind fun x=>some ({m with imports:=x.1},x.2)
 | 3=>(fC vN l).bind fun x=>some ({m with funcs:=x.1},x.2)
 | 4=>(fC lx l).bind fun x=>some ({m with table:=kg x.1},x.2)
 | 5=>(fC gy l).bind fun x=>some ({m with mem:=kg x.1},x.2)
 | 6=>(fC pM l).bind fun x=>some ({m with globals:=x.1},x.2)
 | 7=>(fC um l).bind fun x=>some ({m with ep:=x.1},x.2)
 | 9=>(fC pk l).bind fun x=>some ({m with elems:=x.1},x.2)
 | 10=>(fC mq l).bind fun x=>some ({m with eA:=x.1},x.2)
 | 11=>(fC uz l).bind fun x=>some ({m with eK:=x.1},x.2)
 | _=>none
def oc:Nat ->eI ->List UInt8 ->Option eI
 | 0,_,_=>none
 | _+1,m,[]=>some m
 | f+1,m,no::l=>(gq l).bind fun k=>(kb no.toNat m k.2).bind fun x=>oc f x.1 x.2
def mL (l:List UInt8):Option eI:=if 8000 < l.length then none else if l.take 8=fL then oc (l.length+1) m0 (l.drop 8)else none
theorem kt {α:Type} {no:UInt8} {put:α ->List UInt8} {get:je α} {l:List α} {m m':eI} (upd:List α ->eI) (OB:∀b,kb no.toNat m b=(fC get b).bind fun x=>some (upd x.1,x.2)) (h0:l=[] ->m'=m) (h1:upd l=m')
  (hp:∀x∈l,∀r,get (put x++r)=some (x,r)) (hl:l.length < 4294967296) (hs:(ff put l).length < 4294967296) (f:Nat) (r:List UInt8) (hf:(fM no put l++r).length < f):
  ∃f',r.length < f'/\oc f m (fM no put l++r)=oc f' m' r:=by
 cases l with
 | nil=>
  rw [h0 rfl];exact⟨f,by simpa [fM] using hf,rfl⟩
 | cons x l=>
  obtain⟨f,rfl⟩:∃f',f=f'+1:=⟨f - 1,by omega⟩;refine⟨f,?_,?_⟩
  ·simp only [fM,ah,aF]at hf
   omega
  ·simp only [fM,bI,aP]
   rw [oc,lk _ _ hs];simp only [az];rw [OB,oh _ _ hl hp];simp only [az];rw [h1]
def eI.Ia (m:eI):Prop:=
 (∀x∈m.types,x.may)/\(∀x∈m.imports,x.may)/\(∀n∈m.funcs,gp n)/\m.table.may 16 1000/\m.mem.may 16 65536/\(∀x∈m.globals,x.init.may)/\(∀x∈m.ep,x.may)/\(∀x∈m.elems,x.may)/\(∀x∈m.eA,x.may)/\∀x∈m.eK,x.may
theorem zf {α:Type} (no:UInt8) (put:α ->List UInt8) (l:List α):l=[]\/(ff put l).length < (fM no put l).length:=by
 cases l with
 | nil=>exact .inl rfl
 | cons x l=>
  right
  simp only [fM,aF,ah];omega
theorem jL {α:Type} (no:UInt8) (put:α ->List UInt8) (l:List α) {n:Nat} (h:(fM no put l).length <=n) (hn:n <=8000):(ff put l).length < 4294967296:=by
 rcases zf no put l with h1 | h1
 ·rw [h1]
  have:=(eO 0).2;simp only [ff,aL,cV,List.flatten_nil,bO];omega
 ·omega
theorem me {α:Type} (put:α ->List UInt8):∀l:List α,(∀x∈l,1 <=(put x).length) ->l.length <=(ff put l).length:=by
 intro l h;have:∀l:List α,(∀x∈l,1 <=(put x).length) ->l.length <=((l.map put).flatten).length:=by
  intro l
  induction l with
  | nil=>simp
  | cons x l ih=>
   intro h;have h1:=h x (by simp);have h2:=ih (fun y hy=>h y (by simp [hy]));simp only [bG,bT,ah,aF];omega
 have:=this l h;simp only [ff,ah];omega
theorem BW {x:gS} {m:eI} (hx:x∈m.eA) (hl:(fJ m).length <=8000):(mB x).length < 4294967296:=by
 have h1:(iE x).length <=((m.eA.map iE).flatten).length:=by
  obtain⟨a,b,Qy⟩:=List.append_of_mem hx;rw [Qy];simp only [bY,bG,List.flatten_append,bT,ah];omega
 rcases zf 10 iE m.eA with h2 | h2
 ·rw [h2]at hx
  simp at hx
 ·simp only [fJ,pK,ah]at hl
  simp only [ff,ah]at h2;simp only [iE,ah]at h1;omega
def mask (S:Nat ->Bool) (w:World):World:={w with heap:=w.heap.mapIdx fun i o=>if S i=true then .cells #[] 0 else o}
theorem iq (S:Nat ->Bool) (w:World):(mask S w).heap.size=w.heap.size:=by simp [mask]
theorem jE {S:Nat ->Bool} (w:World) {k:Nat} (h:S k=false):(mask S w).heap[k]?=w.heap[k]?:=by
 simp [mask,h]
theorem ph {S:Nat ->Bool} (w:World) {k:Nat} (h:S k=true):(mask S w).heap[k]?=(w.heap[k]?).map fun _=>Obj.cells #[] 0:=by
 simp [mask,h]
theorem gg {S:Nat ->Bool} {w:World} {b i:Nat} {v:Value} (h:(mask S w).cell? ⟨b,i,none⟩=some v):S b=false/\w.cell? ⟨b,i,none⟩=some v:=by
 cases hs:S b with
 | true=>
  exfalso;unfold World.cell? at h;rw [ph w hs]at h;cases hg:w.heap[b]? with
  | none=>rw [hg]at h;simp at h
  | some o=>rw [hg]at h;simp at h
 | false=>
  refine⟨rfl,?_⟩;unfold World.cell? at h⊢;rw [jE w hs]at h;exact h
theorem ee.mask {P:Nat ->Prop} {S:Nat ->Bool} {w w':World} (h:ee P w w') (hs:∀k,P k ->S k=true):Below (mask S w).heap.size (mask S w) (mask S w'):=by
 refine⟨h.os,h.tape,h.output,by rw [iq,iq];exact h.size,fun k hk=>?_⟩;rw [iq]at hk;cases hb:S k with
 | true=>
  rw [ph _ hb,ph _ hb,Array.getElem?_eq_getElem hk,Array.getElem?_eq_getElem (bK hk h.size)];rfl
 | false=>
  rw [jE _ hb,jE _ hb];exact h.block k hk (fun g=>by rw [hs k g]at hb;cases hb)
theorem Ce {S:Nat ->Bool} {w w':World} (h:Below w.heap.size w w'):Below (mask S w).heap.size (mask S w) (mask S w'):=
 (ee.eh (S:=fun _=>False) h).mask (fun _ h=>h.elim)
theorem ew.gh {α:Type} {k:Nat} {enc:α ->List Value} {S:Nat ->Bool} {w:World} {v:Value} {l:List α} (h:ew k enc (mask S w) v l):ew k enc w v l:=by
 obtain⟨a,cap,hv,h1,h2,h3⟩:=h;refine⟨a,cap,hv,h1,h2,fun i x hx=>?_⟩;obtain⟨b,off,ha,Lw,hc⟩:=h3 i x hx;exact⟨b,off,ha,by rw [iq]at Lw;exact Lw,fun j u hu=>(gg (hc j u hu)).2⟩
theorem et.gh {α β:Type} {k:Nat} {enc:α × β ->List Value} {inner:World ->α ->β ->Prop} {S:Nat ->Bool} {w:World} {v:Value} {l:List α} (h:et k enc inner (mask S w) v l) (hi:∀x u,inner (mask S w) x u ->inner w x u):et k enc inner w v l:=by
 obtain⟨us,h1,h2,h3⟩:=h;exact⟨us,h1,h2.gh,fun i x u hx hu=>hi x u (h3 i x u hx hu)⟩
theorem eW.gh {S:Nat ->Bool} {w:World} {v:Value} {l:List UInt8} (h:eW (mask S w) v l):eW w v l:=by
 obtain⟨a,cap,hv,h1,h2,h3⟩:=h;refine⟨a,cap,hv,h1,h2,fun i x hx=>?_⟩;obtain⟨b,off,ha,hc⟩:=h3 i x hx;exact⟨b,off,ha,(gg hc).2⟩
theorem ea.mask {α:Type} {t:TypeId} {k:Nat} {enc:α ->List Value} {S:Nat ->Bool} {w:World} {B:Nat} {v:Value} {l:List α} (h:ea t k enc w B v l) (hs:∀b,B <=b ->S b=false):ea t k enc (mask S w) B v l:=by
 obtain⟨hl,hv | ⟨g,cap,cur,hv,hb,hg,rest⟩⟩:=h
 ·exact⟨hl, .inl hv⟩
 ·exact⟨hl, .inr ⟨g,cap,cur,hv,hb,by rw [jE w (hs g hb)];exact hg,rest⟩⟩
theorem eg.mask {S:Nat ->Bool} {w:World} {B:Nat} {v:Value} {l:List UInt8} (h:eg w B v l) (hs:∀b,B <=b ->S b=false):eg (mask S w) B v l:=by
 obtain⟨hl,hv | ⟨g,cap,cur,hv,hb,hg,rest⟩⟩:=h
 ·exact⟨hl, .inl hv⟩
 ·exact⟨hl, .inr ⟨g,cap,cur,hv,hb,by rw [jE w (hs g hb)];exact hg,rest⟩⟩
theorem gZ.gh {S:Nat ->Bool} {w:World} {x:eS} {u:Value} (h:gZ (mask S w) x u):gZ w x u:=⟨h.1.gh,h.2⟩
theorem gx.gh {S:Nat ->Bool} {w:World} {v:Value} {l:List eS} (h:gx (mask S w) v l):gx w v l:=et.gh h (fun _ _ h=>h.gh)
theorem gW.gh {S:Nat ->Bool} {w:World} {x:gN} {u:Value × Value} (h:gW (mask S w) x u):gW w x u:=⟨⟨h.1.1.gh,h.1.2.gh⟩,h.2⟩
theorem ig.gh {S:Nat ->Bool} {w:World} {x:jb} {u:Value} (h:ig (mask S w) x u):ig w x u:=⟨h.1.gh,h.2⟩
theorem gU.gh {S:Nat ->Bool} {w:World} {x:gS} {u:Value × Value} (h:gU (mask S w) x u):gU w x u:=⟨⟨h.1.1.gh,h.1.2.gh⟩,h.2⟩
theorem gE.gh {S:Nat ->Bool} {w:World} {x:gD} {u:Value} (h:gE (mask S w) x u):gE w x u:=⟨h.1.gh,h.2⟩
theorem eD.gh {S:Nat ->Bool} {w:World} {u:eL} {m:eI} (h:eD (mask S w) u m):eD w u m:=by
 obtain⟨h1,h2,h3,h4,h5,h6,h7,h8,h9⟩:=h;exact⟨et.gh h1 (fun _ _ h=>h.gh),h2.gh,h3.gh,h4.gh,h5.gh,et.gh h6 (fun _ _ h=>h.gh),et.gh h7 (fun _ _ h=>h.gh),et.gh h8 (fun _ _ h=>h.gh),h9⟩
abbrev gu:=Option (List UInt8)
def gu.len:gu ->Nat
 | none=>0
 | some l=>l.length+1
def ez {α:Type} (get:je α) (st:gu):gu:=(st.bind get).map (·.2)
def ie {α:Type} (get:je α) (st:gu) (x:α):Prop:=∀y,st.bind get=some y ->x=y.1
theorem mO {α:Type} (get:je α) (x:α):ie get none x:=fun _ h=>by simp at h
def kx {α β:Type} (a:je α) (b:je β):je (α × β):=fun l=>(a l).bind fun x=>(b x.2).bind fun y=>some ((x.1,y.1),y.2)
def hU {α β:Type} (f:α ->β) (a:je α):je β:=fun l=>(a l).map fun x=>(f x.1,x.2)
theorem hH {α β:Type} (a:je α) (b:je β) (st:gu):ez (kx a b) st=ez b (ez a st):=by
 cases st with
 | none=>rfl
 | some l=>
  simp only [ez,kx,az];cases h:a l with
  | none=>rfl
  | some x=>cases h2:b x.2 <;>simp [h2]
theorem iz {α β:Type} {a:je α} {b:je β} {st:gu} {x:α} {y:β} (h1:ie a st x) (h2:ie b (ez a st) y):ie (kx a b) st (x,y):=by
 intro z hz;cases st with
 | none=>simp at hz
 | some l=>
  simp only [kx,az]at hz;cases h:a l with
  | none=>rw [h]at hz;simp at hz
  | some x'=>
   rw [h]at hz;simp only [az]at hz;cases hb:b x'.2 with
   | none=>rw [hb]at hz;simp at hz
   | some y'=>
    rw [hb]at hz;simp only [az,aX]at hz;have e1:=h1 x' (by simpa using h);have e2:=h2 y' (by simp [ez,h,hb]);rw [<- hz,e1,e2]
theorem fG {α β:Type} (f:α ->β) (a:je α) (st:gu):ez (hU f a) st=ez a st:=by
 cases st with
 | none=>rfl
 | some l=>
  simp only [ez,hU,az];cases a l <;>rfl
theorem fK {α β:Type} {f:α ->β} {a:je α} {st:gu} {x:α} (h:ie a st x):ie (hU f a) st (f x):=by
 intro z hz;cases st with
 | none=>simp at hz
 | some l=>
  simp only [hU,az]at hz;cases ha:a l with
  | none=>rw [ha]at hz;simp at hz
  | some y=>
   rw [ha]at hz;simp only [bF,aX]at hz;rw [<- hz,h y (by simpa using ha)]
def iZ {α:Type} (get:je α):Prop:=∀l y,get l=some y ->y.2.length < l.length
def pd {α:Type} (get:je α):Prop:=∀l y,get l=some y ->y.2.length <=l.length
theorem iZ.mr {α:Type} {get:je α} (h:iZ get):pd get:=fun l y hy=>Nat.le_of_lt (h l y hy)
theorem iZ.seq {α β:Type} {a:je α} {b:je β} (ha:iZ a) (hb:pd b):iZ (kx a b):=by
 intro l y hy;simp only [kx]at hy;cases h:a l with
 | none=>rw [h]at hy;simp at hy
 | some x=>
  rw [h]at hy;simp only [az]at hy;cases h2:b x.2 with
  | none=>rw [h2]at hy;simp at hy
  | some z=>
   rw [h2]at hy;simp only [az,aX]at hy;subst hy;exact Nat.lt_of_le_of_lt (hb _ _ h2) (ha _ _ h)
theorem iZ.map {α β:Type} {f:α ->β} {a:je α} (ha:iZ a):iZ (hU f a):=by
 intro l y hy;simp only [hU]at hy;cases h:a l with
 | none=>rw [h]at hy;simp at hy
 | some x=>
  rw [h]at hy;simp only [bF,aX]at hy;subst hy;exact ha _ _ h
theorem pd.len {α:Type} {get:je α} (h:pd get) (st:gu):(ez get st).len <=st.len:=by
 cases st with
 | none=>simp [ez,gu.len]
 | some l=>
  simp only [ez,az];cases hg:get l with
  | none=>simp [gu.len]
  | some y=>have:=h l y hg;simp only [bF,gu.len];omega
theorem iZ.len {α:Type} {get:je α} (h:iZ get) (l:List UInt8):(ez get (some l)).len < gu.len (some l):=by
 simp only [ez,az];cases hg:get l with
 | none=>simp [gu.len]
 | some y=>have:=h l y hg;simp only [bF,gu.len];omega
theorem ly:iZ gq:=by
 intro l y hy;unfold gq at hy;split at hy
 ·rename_i h
  simp only [aX]at hy;subst hy;unfold ix at h;split at h
  ·rename_i h1
   exact absurd h h1
  ·rename_i h1
   have h2:=dJ.1 h1;obtain⟨_,_,k1,k2,_⟩:=jq h2;have h3:(ix 32 l).2.1=(fo 32 l).1:=by
    unfold ix;rw [aC h1];split
    ·rfl
    ·rename_i h4
     rw [aC h4]at h;cases h
   simp only [bu,h3];omega
 ·cases hy
theorem kN:iZ fk:=by
 intro l y hy;cases l with
 | nil=>cases hy
 | cons c l=>simp only [fk,aX]at hy;subst hy;simp
theorem lO:iZ gT:=by
 intro l y hy;unfold gT at hy;split at hy
 ·simp only [aX]at hy;subst hy;simp
 ·simp only [aX]at hy;subst hy;simp
 ·cases hy
theorem zQ {α:Type} {get:je α} (h:iZ get):∀n,pd (sh get n)
 | 0=>fun l y hy=>by simp only [sh,aX]at hy;subst hy;exact ag _
 | n+1=>fun l y hy=>by
  simp only [sh]at hy;cases hg:get l with
  | none=>rw [hg]at hy;simp at hy
  | some x=>
   rw [hg]at hy;simp only [az]at hy;cases hr:sh get n x.2 with
   | none=>rw [hr]at hy;simp at hy
   | some z=>
    rw [hr]at hy;simp only [az,aX]at hy;subst hy;exact aW (show z.2.length <=x.2.length from zQ h n _ _ hr) (Nat.le_of_lt (h _ _ hg))
theorem il {α:Type} {get:je α} (h:iZ get):iZ (fC get):=by
 intro l y hy;simp only [fC]at hy;cases hg:gq l with
 | none=>rw [hg]at hy;simp at hy
 | some x=>
  rw [hg]at hy;simp only [az]at hy;exact Nat.lt_of_le_of_lt (zQ h _ _ _ hy) (ly _ _ hg)
theorem tV:pg=hU (fun x=>⟨x.2.1,x.2.2⟩) (kx fk (kx (fC gT) (fC gT))):=by
 funext l
 simp only [pg,hU,kx];cases h1:fk l with
 | none=>rfl
 | some c=>
  simp only [az];cases h2:fC gT c.2 with
  | none=>rfl
  | some p=>
   simp only [az];cases fC gT p.2 <;>rfl
theorem yj:uZ=hU (fun x=>⟨x.1,x.2.1,x.2.2.2⟩) (kx jQ (kx jQ (kx fk vN))):=by
 funext l
 simp only [uZ,hU,kx];cases h1:jQ l with
 | none=>rfl
 | some a=>
  simp only [az];cases h2:jQ a.2 with
  | none=>rfl
  | some b=>
   simp only [az];cases h3:fk b.2 with
   | none=>rfl
   | some c=>
    simp only [az];cases vN c.2 <;>rfl
theorem tX:pM=hU (fun x=>⟨x.2.1 !=0,x.2.2⟩) (kx gT (kx fk gR)):=by
 funext l
 simp only [pM,hU,kx];cases h1:gT l with
 | none=>rfl
 | some a=>
  simp only [az];cases h2:fk a.2 with
  | none=>rfl
  | some b=>
   simp only [az];cases gR b.2 <;>rfl
theorem yn:um=hU (fun x=>⟨x.1,x.2.2⟩) (kx jQ (kx fk vN)):=by
 funext l
 simp only [um,hU,kx];cases h1:jQ l with
 | none=>rfl
 | some a=>
  simp only [az];cases h2:fk a.2 with
  | none=>rfl
  | some b=>
   simp only [az];cases vN b.2 <;>rfl
theorem pE:pk=hU (fun x=>⟨x.1,x.2⟩) (kx jA (fC vN)):=by
 funext l
 simp only [pk,hU,kx];cases h1:jA l with
 | none=>rfl
 | some a=>
  simp only [az];cases fC vN a.2 <;>rfl
theorem xJ:uz=hU (fun x=>⟨x.1,x.2⟩) (kx jA mD):=by
 funext l
 simp only [uz,hU,kx];cases h1:jA l with
 | none=>rfl
 | some a=>
  simp only [az];cases mD a.2 <;>rfl
theorem qI:vN=hU (fun n:Nat=>(n:Int)) gq:=by
 funext l
 simp only [vN,hU];cases gq l <;>rfl
theorem uQ:jQ=hU bs mD:=by
 funext l
 simp only [jQ,hU];cases mD l <;>rfl
theorem sq:jA=hU (fun x=>x.2.n) (kx fk gR):=by
 funext l
 simp only [jA,hU,kx];cases h1:fk l with
 | none=>rfl
 | some a=>
  simp only [az];cases gR a.2 <;>rfl
theorem sd:lx=hU (fun x=>x.2) (kx fk gy):=by
 funext l
 simp only [lx,hU,kx];cases h1:fk l with
 | none=>rfl
 | some a=>
  simp only [az];cases gy a.2 <;>rfl
structure IR where
 pos:Nat
 err:Int
def IR.rest (L:List UInt8) (s:IR):gu:=if s.err=0 then some (L.drop s.pos)else none
def IR.byte (L:List UInt8) (s:IR):Nat × IR:=
 if s.err=0 then(match L[s.pos]? with | some c=>(c.toNat,⟨s.pos+1,0⟩) | none=>(0,⟨s.pos,2⟩))else(0,s)
def IR.kl (L:List UInt8) (lim:Nat) (s:IR):Nat × IR:=
 if s.err=0 then(if(ix 32 (L.drop s.pos)).2.2=0 then(if lim < (ix 32 (L.drop s.pos)).1 then(0,⟨s.pos,1⟩)else((ix 32 (L.drop s.pos)).1,⟨s.pos+(ix 32 (L.drop s.pos)).2.1,0⟩))else(0,⟨s.pos,(ix 32 (L.drop s.pos)).2.2⟩))else(0,s)
def IR.qG (L:List UInt8) (bits:Int) (s:IR):Int × IR:=((jF bits (L.drop s.pos)).1,⟨s.pos+(jF bits (L.drop s.pos)).2.1,(jF bits (L.drop s.pos)).2.2⟩)
def IR.zero (L:List UInt8) (s:IR):IR:=if(s.byte L).1=0 then(s.byte L).2 else⟨(s.byte L).2.pos,1⟩
def IR.kind (L:List UInt8) (s:IR):Nat × IR:=
 if(s.byte L).1=64 then(0,(s.byte L).2)else if(s.byte L).1=127 then(1,(s.byte L).2)else if(s.byte L).1=126 then(2,(s.byte L).2)
 else(0,if(s.byte L).2.err=0 then⟨(s.byte L).2.pos,1⟩else(s.byte L).2)
def IR.ok (L:List UInt8) (s:IR):Prop:=s.pos <=L.length/\0 <=s.err/\s.err <=12
theorem IR.xD (L:List UInt8) (s:IR):(s.byte L).2.rest L=ez fk (s.rest L):=by
 unfold IR.byte IR.rest;by_cases h:s.err=0
 ·simp only [h,dc]
  cases hc:L[s.pos]? with
  | none=>
   have:L.drop s.pos=[]:=by rw [List.drop_eq_nil_iff];exact List.getElem?_eq_none_iff.1 hc
   simp [this,ez,fk]
  | some c=>
   obtain⟨Lw,rfl⟩:=aM.1 hc;rw [cA Lw];rfl
 ·simp [h,ez]
theorem IR.Av (L:List UInt8) (s:IR):∀y,(s.rest L).bind fk=some y ->(s.byte L).1=y.1.toNat:=by
 unfold IR.byte IR.rest;intro y hy;by_cases h:s.err=0
 ·simp only [h,dc]at hy⊢
  cases hc:L[s.pos]? with
  | none=>
   have:L.drop s.pos=[]:=by rw [List.drop_eq_nil_iff];exact List.getElem?_eq_none_iff.1 hc
   rw [this]at hy;simp [fk]at hy
  | some c=>
   obtain⟨Lw,rfl⟩:=aM.1 hc;rw [cA Lw]at hy;simp only [az,fk,aX]at hy;rw [<- hy]
 ·simp [h]at hy
theorem IR.yy {L:List UInt8} {s:IR} (h:s.ok L):(s.byte L).2.ok L:=by
 obtain⟨h1,h2,h3⟩:=h;unfold IR.byte;split
 ·split
  ·rename_i c hc
   have:=(aM.1 hc).1;exact⟨by simp only;omega,by simp,by simp⟩
  ·exact⟨h1,by simp,by simp⟩
 ·exact⟨h1,h2,h3⟩
theorem Gl (bits:Int) (l:List UInt8):0 <=(ix bits l).2.2/\(ix bits l).2.2 <=12:=by
 have hl:0 <=(fo bits l).2/\(fo bits l).2 <=12:=by
  unfold fo
  repeat' split
  all_goals simp
 unfold ix;split
 ·exact hl
 ·split <;>simp
theorem Fk (bits:Int) (l:List UInt8):0 <=(jF bits l).2.2/\(jF bits l).2.2 <=12:=by
 have hl:0 <=(fo bits l).2/\(fo bits l).2 <=12:=by
  unfold fo
  repeat' split
  all_goals simp
 unfold jF;split
 ·exact hl
 ·split <;>simp
theorem xS (bits:Int) (l:List UInt8):(ix bits l).2.1 <=l.length:=by
 unfold ix;split
 ·simp
 ·rename_i h
  obtain⟨_,_,k1,k2,_⟩:=jq (dJ.1 h);split
  ·simp only;omega
  ·simp
theorem C0 (bits:Int) (l:List UInt8):(jF bits l).2.1 <=l.length:=by
 unfold jF;split
 ·simp
 ·rename_i h
  obtain⟨_,_,k1,k2,_⟩:=jq (dJ.1 h);split
  ·simp only;omega
  ·simp
theorem IR.rb (L:List UInt8) (lim:Nat) (s:IR):(s.kl L lim).2.rest L=ez (lH lim) (s.rest L):=by
 unfold IR.kl IR.rest;by_cases h:s.err=0
 ·simp only [h,dc]
  by_cases h1:(ix 32 (L.drop s.pos)).2.2=0
  ·simp only [h1,dc]
   by_cases h2:lim < (ix 32 (L.drop s.pos)).1
   ·rw [aJ h2]
    simp [ez,lH,h1,Nat.not_le.2 h2]
   ·rw [aC h2]
    simp [ez,lH,h1,Nat.not_lt.1 h2,List.drop_drop]
  ·simp only [h1,if_false]
   simp [ez,lH,h1]
 ·simp [h,ez]
theorem IR.tu (L:List UInt8) (lim:Nat) (s:IR):ie (lH lim) (s.rest L) (s.kl L lim).1:=by
 unfold IR.kl IR.rest;intro y hy;by_cases h:s.err=0
 ·simp only [h,dc]at hy⊢
  simp only [az,lH]at hy;split at hy
  ·rename_i h1
   simp only [h1.1,dc,aC (Nat.not_lt.2 h1.2)];simp only [aX]at hy;rw [<- hy]
  ·cases hy
 ·simp [h]at hy
theorem IR.Jo {L:List UInt8} {lim:Nat} {s:IR} (h:s.ok L):(s.kl L lim).2.ok L:=by
 obtain⟨h1,h2,h3⟩:=h;have e1:=Gl 32 (L.drop s.pos);have e2:=xS 32 (L.drop s.pos);rw [bu]at e2;unfold IR.kl;split
 ·split
  ·split
   ·exact⟨h1,by simp,by simp⟩
   ·exact⟨by simp only;omega,by simp,by simp⟩
  ·exact⟨h1,e1⟩
 ·exact⟨h1,h2,h3⟩
theorem IR.A0 (L:List UInt8) (lim:Nat) (s:IR):(s.kl L lim).1 <=lim:=by
 unfold IR.kl;split
 ·split
  ·split
   ·simp
   ·rename_i h;exact Nat.not_lt.1 h
  ·simp
 ·simp
theorem IR.zr (L:List UInt8) (bits:Int) (s:IR) (h:s.err=0):(s.qG L bits).2.rest L=ez (A6 bits) (s.rest L):=by
 unfold IR.qG IR.rest;simp only [h,dc];by_cases h1:(jF bits (L.drop s.pos)).2.2=0
 ·simp [h1,ez,A6,List.drop_drop]
 ·simp [h1,ez,A6]
theorem IR.CN (L:List UInt8) (bits:Int) (s:IR):ie (A6 bits) (s.rest L) (s.qG L bits).1:=by
 unfold IR.qG IR.rest;intro y hy;split at hy
 ·simp only [az,A6]at hy
  split at hy
  ·simp only [aX]at hy
   rw [<- hy]
  ·cases hy
 ·simp at hy
theorem IR.JP {L:List UInt8} {bits:Int} {s:IR} (h:s.ok L):(s.qG L bits).2.ok L:=by
 obtain⟨h1,h2,h3⟩:=h;have e1:=Fk bits (L.drop s.pos);have e2:=C0 bits (L.drop s.pos);rw [bu]at e2;exact⟨by simp only [IR.qG];omega,e1⟩
theorem GU (l:List UInt8):pr l=(fk l).bind fun c=>if c.1.toNat=0 then some c.2 else none:=by
 cases l with
 | nil=>rfl
 | cons c l=>
  simp only [fk,az];by_cases h:c=0
  ·subst h
   rfl
  ·have:c.toNat≠0:=fun g=>h (dD.1 (by simpa using g))
   rw [aC this];unfold pr;split
   ·rename_i heq
    injection heq with e1 e2;exact absurd e1 h
   ·rfl
theorem IR.wU (L:List UInt8) (s:IR):(s.zero L).rest L=(s.rest L).bind pr:=by
 have h1:=IR.xD L s;have h2:=IR.Av L s;have hz:(s.rest L).bind pr=((s.rest L).bind fk).bind fun c=>if c.1.toNat=0 then some c.2 else none:=by
  cases s.rest L with
  | none=>rfl
  | some l=>simp only [az,GU]
 rw [hz];unfold ez at h1;unfold IR.zero;cases hb:(s.rest L).bind fk with
 | none=>
  rw [hb]at h1;simp only [dS]at h1;simp only [Option.bind_none];split
  ·exact h1
  ·simp [IR.rest]
 | some y=>
  rw [hb]at h1;have e:=h2 y hb;rw [e];simp only [bF]at h1;simp only [az];split
  ·exact h1
  ·simp [IR.rest]
theorem IR.IW {L:List UInt8} {s:IR} (h:s.ok L):(s.zero L).ok L:=by
 have:=IR.yy h;unfold IR.zero;split
 ·exact this
 ·exact⟨this.1,by simp,by simp⟩
theorem Ee (l:List UInt8):sN l=(fk l).bind fun c=>if c.1.toNat=64 then some (0,c.2)else if c.1.toNat=127 then some (1,c.2)else if c.1.toNat=126 then some (2,c.2)else none:=by
 cases l with
 | nil=>rfl
 | cons c l=>
  simp only [fk,az];have key:∀k:UInt8,c.toNat=k.toNat ->c=k:=fun k h=>dD.1 h;unfold sN;split
  ·rename_i heq;injection heq with e1 e2;subst e1 e2;rfl
  ·rename_i heq;injection heq with e1 e2;subst e1 e2;rfl
  ·rename_i heq;injection heq with e1 e2;subst e1 e2;rfl
  ·rename_i h1 h2 h3
   rw [aC (fun g=>h1 l (by rw [key 0x40 g])),aC (fun g=>h2 l (by rw [key 0x7f g])),aC (fun g=>h3 l (by rw [key 0x7e g]))]
theorem IR.Dv (L:List UInt8) (s:IR):(s.kind L).2.rest L=ez sN (s.rest L)/\∀y,(s.rest L).bind sN=some y ->((s.kind L).1:Int)=y.1:=by
 have h1:=IR.xD L s;have h2:=IR.Av L s;have hz:(s.rest L).bind sN=((s.rest L).bind fk).bind fun c=>if c.1.toNat=64 then some (0,c.2)else if c.1.toNat=127 then some (1,c.2)else if c.1.toNat=126 then some (2,c.2)else none:=by
  cases s.rest L with
  | none=>rfl
  | some l=>simp only [az,Ee]
 unfold ez at h1⊢;rw [hz];unfold IR.kind;cases hb:(s.rest L).bind fk with
 | none=>
  rw [hb]at h1;simp only [dS]at h1;simp only [Option.bind_none,dS];have he:¬ (s.byte L).2.err=0:=fun g=>by rw [IR.rest,aJ g]at h1;cases h1
  refine⟨?_,fun y hy=>by cases hy⟩;split
  ·exact h1
  ·split
   ·exact h1
   ·split
    ·exact h1
    ·simp only
     exact h1
 | some y=>
  rw [hb]at h1;have e:=h2 y hb;rw [e];simp only [bF]at h1;simp only [az];split
  ·exact⟨h1,fun z hz=>by injection hz with hz;rw [<- hz];rfl⟩
  ·split
   ·exact⟨h1,fun z hz=>by injection hz with hz;rw [<- hz];rfl⟩
   ·split
    ·exact⟨h1,fun z hz=>by injection hz with hz;rw [<- hz];rfl⟩
    ·refine⟨?_,fun z hz=>by cases hz⟩
     simp only [dS];split
     ·simp [IR.rest]
     ·rename_i he
      simp [IR.rest,he]
theorem IR.He {L:List UInt8} {s:IR} (h:s.ok L):(s.kind L).2.ok L:=by
 have:=IR.yy h;unfold IR.kind;split
 ·exact this
 ·split
  ·exact this
  ·split
   ·exact this
   ·simp only
    split
    ·exact⟨this.1,by simp,by simp⟩
    ·exact this
def IR.mK (L:List UInt8):Nat ->IR ->List Nat × IR
 | 0,s=>([],s)
 | n+1,s=>((s.kl L 1000).1::(IR.mK L n (s.kl L 1000).2).1,(IR.mK L n (s.kl L 1000).2).2)
theorem IR.wQ (L:List UInt8):∀(n:Nat) (s:IR),(s.mK L n).2.rest L=ez (pq 1000 n) (s.rest L)/\ie (pq 1000 n) (s.rest L) ((s.mK L n).1.map fun x:Nat=>(x:Int))
 | 0,s=>by
  refine⟨?_,fun y hy=>?_⟩
  ·simp only [IR.mK,ez]
   cases s.rest L <;>rfl
  ·cases h:s.rest L with
   | none=>rw [h]at hy;simp at hy
   | some l=>rw [h]at hy;simp only [az,pq,aX]at hy;rw [<- hy];rfl
 | n+1,s=>by
  have h1:=IR.rb L 1000 s;have h2:=IR.tu L 1000 s;obtain⟨h3,h4⟩:=IR.wQ L n (s.kl L 1000).2;rw [h1]at h3 h4;simp only [IR.mK];rw [h3];cases hr:s.rest L with
  | none=>exact⟨rfl,fun y hy=>by simp at hy⟩
  | some l=>
   rw [hr]at h2 h4;simp only [ez,az,pq]at h4⊢;cases ha:lH 1000 l with
   | none=>exact⟨rfl,fun y hy=>by simp [ha]at hy⟩
   | some a=>
    have e1:=h2 a (by simpa using ha);rw [ha]at h4;simp only [bF,az];cases hb:pq 1000 n a.2 with
    | none=>exact⟨rfl,fun y hy=>by simp [ha,hb]at hy⟩
    | some b=>
     have e2:=h4 b (by simpa using hb);refine⟨rfl,fun y hy=>?_⟩;simp only [az,ha,hb,aX]at hy;rw [<- hy,bG,e1,e2]
def IR.get (L:List UInt8) (c:Nat) (s:IR):eS × IR:=
 match fT c with
 | 2=>(⟨c,(s.kind L).1,0,[]⟩,(s.kind L).2)
 | 3=>(⟨c,(s.kl L 1000).1,0,[]⟩,(s.kl L 1000).2)
 | 4=>(⟨c,(((s.kl L 50).2.mK L (s.kl L 50).1).2.kl L 1000).1,0,((s.kl L 50).2.mK L (s.kl L 50).1).1.map fun x:Nat=>(x:Int)⟩,(((s.kl L 50).2.mK L (s.kl L 50).1).2.kl L 1000).2)
 | 5=>(⟨c,(s.kl L 1000).1,0,[]⟩,(s.kl L 1000).2.zero L)
 | 6=>(⟨c,(s.kl L 3).1,((s.kl L 3).2.kl L 4294967295).1,[]⟩,((s.kl L 3).2.kl L 4294967295).2)
 | 7=>(⟨c,0,0,[]⟩,s.zero L)
 | 8=>(⟨c,(s.qG L 32).1,0,[]⟩,(s.qG L 32).2)
 | 9=>(⟨c,(s.qG L 64).1,0,[]⟩,(s.qG L 64).2)
 | _=>(⟨c,0,0,[]⟩,s)
theorem IR.sa (c:UInt8) (l:List UInt8) (hf:fT c.toNat≠0):
  (IR.get (c::l) c.toNat ⟨1,0⟩).2.rest (c::l)=(gG (c::l)).map (·.2)/\∀y,gG (c::l)=some y ->(IR.get (c::l) c.toNat ⟨1,0⟩).1=y.1:=by
 have h0:IR.rest (c::l) ⟨1,0⟩=some l:=rfl;have RT:=od c.toNat;have hu:=fun lim=>IR.rb (c::l) lim ⟨1,0⟩;have hw:=fun lim=>IR.tu (c::l) lim ⟨1,0⟩;simp only [h0,ez,az]at hu;simp only [h0,ie,az]at hw;unfold IR.get gG;dsimp only;generalize hff:fT (c.toNat:Int)=f at*;rcases(show f=1\/f=2\/f=3\/f=4\/f=5\/f=6\/f=7\/f=8\/f=9 by omega)with rfl | rfl | rfl | rfl | rfl | rfl | rfl | rfl | rfl
 ·exact⟨rfl,fun y hy=>by injection hy with hy;rw [<- hy];rfl⟩
 ·obtain⟨h1,h2⟩:=IR.Dv (c::l) ⟨1,0⟩
  simp only [h0,ez,az]at h1 h2;simp only [h1];cases hk:sN l with
  | none=>exact⟨rfl,fun y hy=>by cases hy⟩
  | some k=>exact⟨rfl,fun y hy=>by simp only [az,aX]at hy;rw [<- hy,h2 k hk]⟩
 ·simp only [hu]
  cases hk:lH 1000 l with
  | none=>exact⟨rfl,fun y hy=>by cases hy⟩
  | some k=>exact⟨rfl,fun y hy=>by simp only [az,aX]at hy;rw [<- hy,hw 1000 k hk]⟩
 ·simp only
  generalize MU:IR.kl (c::l) 50 ⟨1,0⟩=s1;have a1:=hu 50;have a2:=hw 50;rw [MU]at a1 a2;obtain⟨b1,b2⟩:=IR.wQ (c::l) s1.1 s1.2;generalize LB:s1.2.mK (c::l) s1.1=s2 at*;have c1:=IR.rb (c::l) 1000 s2.2;have c2:=IR.tu (c::l) 1000 s2.2;generalize M0:s2.2.kl (c::l) 1000=s3 at*;rw [b1]at c1 c2;rw [a1]at b1 b2 c1 c2;rw [c1];cases h1:lH 50 l with
  | none=>exact⟨rfl,fun y hy=>by cases hy⟩
  | some n=>
   have e1:=a2 n h1;rw [h1]at b2 c2;simp only [bF,az,ez,e1]at b2 c2⊢;cases h2:pq 1000 n.1 n.2 with
   | none=>exact⟨rfl,fun y hy=>by cases hy⟩
   | some t=>
    have e2:=b2 t (by simpa using h2);rw [h2]at c2;simp only [bF,az]at c2⊢;cases h3:lH 1000 t.2 with
    | none=>exact⟨rfl,fun y hy=>by cases hy⟩
    | some x=>
     have e3:=c2 x (by simpa using h3);exact⟨rfl,fun y hy=>by simp only [az,aX]at hy;rw [<- hy,e3,e2]⟩
 ·simp only [IR.wU,hu]
  cases hk:lH 1000 l with
  | none=>exact⟨rfl,fun y hy=>by cases hy⟩
  | some k=>
   simp only [bF,az];cases hz:pr k.2 with
   | none=>exact⟨rfl,fun y hy=>by cases hy⟩
   | some r=>exact⟨rfl,fun y hy=>by simp only [az,aX]at hy;rw [<- hy,hw 1000 k hk]⟩
 ·have c1:=IR.rb (c::l) 4294967295 (IR.kl (c::l) 3 ⟨1,0⟩).2
  have c2:=IR.tu (c::l) 4294967295 (IR.kl (c::l) 3 ⟨1,0⟩).2;rw [hu]at c1 c2;simp only [c1];cases hk:lH 3 l with
  | none=>exact⟨rfl,fun y hy=>by cases hy⟩
  | some k=>
   rw [hk]at c2;simp only [bF,az,ez]at c2⊢;cases hz:lH 4294967295 k.2 with
   | none=>exact⟨rfl,fun y hy=>by cases hy⟩
   | some r=>exact⟨rfl,fun y hy=>by simp only [az,aX]at hy;rw [<- hy,hw 3 k hk,c2 r (by simpa using hz)]⟩
 ·simp only [IR.wU,h0,az]
  cases hz:pr l with
  | none=>exact⟨rfl,fun y hy=>by cases hy⟩
  | some r=>exact⟨rfl,fun y hy=>by simp only [az,aX]at hy;rw [<- hy]⟩
 ·have c1:=IR.zr (c::l) 32 ⟨1,0⟩ rfl
  have c2:=IR.CN (c::l) 32 ⟨1,0⟩;simp only [h0,ez,az]at c1;simp only [h0,ie,az]at c2;simp only [c1];cases hk:A6 32 l with
  | none=>exact⟨rfl,fun y hy=>by cases hy⟩
  | some k=>exact⟨rfl,fun y hy=>by simp only [az,aX]at hy;rw [<- hy,c2 k hk]⟩
 ·have c1:=IR.zr (c::l) 64 ⟨1,0⟩ rfl
  have c2:=IR.CN (c::l) 64 ⟨1,0⟩;simp only [h0,ez,az]at c1;simp only [h0,ie,az]at c2;simp only [c1];cases hk:A6 64 l with
  | none=>exact⟨rfl,fun y hy=>by cases hy⟩
  | some k=>exact⟨rfl,fun y hy=>by simp only [az,aX]at hy;rw [<- hy,c2 k hk]⟩
theorem ja (n a b:Int) (w:World):Calls prog 134 #[.int .i64 n, .int .i64 a, .int .i64 b] w (eF (ml n a b) w):=by
 by_cases q0:a <=n;rotate_left
 ·have f0:decide (a <=n)=false:=aq q0
  have HB:=V (show ml n a b=false by rw [ml,f0];rfl);go_enter func134,ntmps134;go_wp2_with fail;go_ret;exact⟨by rw [HB.out];rfl,an _ _⟩
 have f0:decide (a <=n)=true:=aA q0;by_cases q1:n <=b
 ·have f1:decide (n <=b)=true:=aA q1
  have HB:=V (show ml n a b=true by rw [ml,f0,f1];rfl);go_enter func134,ntmps134;go_wp2_with fail;go_ret;exact⟨by rw [HB.out];rfl,an _ _⟩
 ·have f1:decide (n <=b)=false:=aq q1
  have HB:=V (show ml n a b=false by rw [ml,f0,f1];rfl);go_enter func134,ntmps134;go_wp2_with fail;go_ret;exact⟨by rw [HB.out];rfl,an _ _⟩
def J5 (op:Int) (w:World) (e:Ending) (w':World):Prop:=e= .returned (.tuple #[.int .i64 (sO op).1, .int .i64 (sO op).2])/\Below w.heap.size w w'
theorem qN (op:Int) (w:World):Calls prog 133 #[.int .i64 op] w (J5 op w):=by
 have hb:=an w.heap.size w;go_enter func133,ntmps133;go_wp2_with fail;refine(ja op 69 79 _).mono ?_;rintro x w1 ⟨rfl,LP⟩;have hb:=ei hb LP;clear LP;cases h1:ml op 69 79
 ·have H1:=V h1
  clear h1;go_wp2_with fail;refine(ja op 103 120 _).mono ?_;rintro x w2 ⟨rfl,LP⟩;have hb:=ei hb LP;clear LP;cases h2:ml op 103 120
  ·have H2:=V h2
   clear h2;go_wp2_with fail;refine(ja op 80 90 _).mono ?_;rintro x w3 ⟨rfl,LP⟩;have hb:=ei hb LP;clear LP;cases h3:ml op 80 90
   ·have H3:=V h3
    clear h3;go_wp2_with fail;refine(ja op 121 138 _).mono ?_;rintro x w4 ⟨rfl,LP⟩;have hb:=ei hb LP;clear LP;cases h4:ml op 121 138
    ·have H4:=V h4
     clear h4;go_wp2_with fail
     go_ret2
     exact⟨by rw [sO,H1.out,H2.out,H3.out,H4.out];rfl,hb⟩
    ·obtain⟨g1,g2⟩:=kh.1 h4
     have H4:=V h4;clear h4;go_wp2_with fail
     go_ret2
     exact⟨by rw [sO,H1.out,H2.out,H3.out,H4.out];rfl,hb⟩
   ·obtain⟨g1,g2⟩:=kh.1 h3
    have H3:=V h3;clear h3;go_wp2_with fail
    go_ret2
    exact⟨by rw [sO,H1.out,H2.out,H3.out];rfl,hb⟩
  ·have H2:=V h2
   clear h2;go_wp2_with fail
   go_ret2
   exact⟨by rw [sO,H1.out,H2.out];rfl,hb⟩
 ·have H1:=V h1
  clear h1;go_wp2_with fail
  go_ret2
  exact⟨by rw [sO,H1.out];rfl,hb⟩
def Fm (op:Int) (w:World) (e:Ending) (w':World):Prop:=
 ∃v,e= .returned (.tuple #[v, .int .i64 (fh op).2.1, .bool (fh op).2.2])/\ew 1 fp w' v (fh op).1/\Below w.heap.size w w'
theorem lP (w:World) (x:Int) (t:TypeId):ew 1 fp (w.alloc (.cells #[.int .i64 x] t)) (.slice (some ⟨w.heap.size,0,none⟩) 1 1) [x]:=by
 refine⟨_,1,rfl,ag _,by simp [maxLen],fun i y hy=>⟨w.heap.size,0,rfl,by simp,fun j u hu=>?_⟩⟩;rw [bQ]
 match i,hy with
 | 0,hy=>
  simp at hy;subst hy
  match j,hu with
  | 0,hu=>simp [fp]at hu;subst hu;rfl
  | j+1,hu=>simp [fp]at hu
 | i+1,hy=>simp at hy
theorem DE (op:Int) (w:World):Calls prog 86 #[.int .i64 op] w (Fm op w):=by
 have hb:=an w.heap.size w;have NN:∀w1:World,Below w1.heap.size w1 w1:=fun w1=>an _ _;by_cases q1:op=167
 ·subst q1
  go_enter func86,ntmps86;go_wp2_with fail
  go_ret3
  exact⟨_,rfl,lP w 2 _,hb.alloc (ag _) _⟩
 have f1:(op==167)=false:=ed q1;by_cases q2:op=172
 ·subst q2
  go_enter func86,ntmps86;go_wp2_with fail
  go_ret3
  exact⟨_,rfl,lP w 1 _,hb.alloc (ag _) _⟩
 have f2:(op==172)=false:=ed q2;by_cases q3:op=173
 ·subst q3
  go_enter func86,ntmps86;go_wp2_with fail
  go_ret3
  exact⟨_,rfl,lP w 1 _,hb.alloc (ag _) _⟩
 have f3:(op==173)=false:=ed q3;have HQ:Hid (op≠167/\op≠172/\op≠173):=V ⟨q1,q2,q3⟩;clear q1 q2 q3 NN;go_enter func86,ntmps86;go_wp2_with fail;refine(qN op _).mono ?_;rintro x w1 ⟨rfl,LC⟩;obtain⟨k,hk⟩:∃k,(sO op).1=k:=⟨_,rfl⟩;obtain⟨l,hl⟩:∃l,(sO op).2=l:=⟨_,rfl⟩;rw [hk,hl];have HK:=V hk;have HL:=V hl;replace hb:=ei hb LC;clear hk hl LC f1 f2 f3;by_cases q4:k=0
 ·have f4:(k==0)=true:=eQ q4
  have H4:=V q4;clear q4;go_wp2_with fail
  go_ret3
  have:fh op=([],0,false):=by rw [fh,aC HQ.out.1,aC HQ.out.2.1,aC HQ.out.2.2,HK.out,aJ H4.out]
  exact⟨_,by rw [this];rfl,by rw [this];exact ew.nil _,hb⟩
 have f4:(k==0)=false:=ed q4;have H4:=V (show k≠0 from q4);clear q4;by_cases q5:l=69
 ·have f5:(l==69)=true:=eQ q5
  have H5:=V q5;clear q5;go_wp2_with fail
  go_ret3
  have:fh op=([k],1,true):=by rw [fh,aC HQ.out.1,aC HQ.out.2.1,aC HQ.out.2.2,HK.out,HL.out,aC H4.out,aJ H5.out]
  exact⟨_,by rw [this];rfl,by rw [this];exact lP w1 k _,hb.alloc hb.size _⟩
 have f5:(l==69)=false:=ed q5;have H5:=V (show l≠69 from q5);clear q5;go_wp2_with fail;refine(ja l 70 79 _).mono ?_;rintro x w2 ⟨rfl,LP⟩;replace hb:=ei hb LP;clear LP f4 f5;cases h6:ml l 70 79 with
 | true=>
  have H6:=V h6;clear h6;go_wp2_with fail
  go_ret3
  have:fh op=([k,k],1,true):=by rw [fh,aC HQ.out.1,aC HQ.out.2.1,aC HQ.out.2.2,HK.out,HL.out,aC H4.out,aC H5.out,H6.out];rfl
  exact⟨_,by rw [this];rfl,by rw [this];exact pR w2 k k _,hb.alloc hb.size _⟩
 | false=>
  have H6:=V h6;clear h6;go_wp2_with fail;refine(ja l 103 105 _).mono ?_;rintro x w3 ⟨rfl,LP⟩;replace hb:=ei hb LP;clear LP;cases h7:ml l 103 105 with
  | true=>
   have H7:=V h7;clear h7;go_wp2_with fail
   go_ret3
   have:fh op=([k],k,true):=by rw [fh,aC HQ.out.1,aC HQ.out.2.1,aC HQ.out.2.2,HK.out,HL.out,aC H4.out,aC H5.out,H6.out,H7.out];rfl
   exact⟨_,by rw [this];rfl,by rw [this];exact lP w3 k _,hb.alloc hb.size _⟩
  | false=>
   have H7:=V h7;clear h7;go_wp2_with fail
   go_ret3
   have:fh op=([k,k],k,true):=by rw [fh,aC HQ.out.1,aC HQ.out.2.1,aC HQ.out.2.2,HK.out,HL.out,aC H4.out,aC H5.out,H6.out,H7.out];rfl
   exact⟨_,by rw [this];rfl,by rw [this];exact pR w3 k k _,hb.alloc hb.size _⟩
def CT (op:Int) (w:World) (e:Ending) (w':World):Prop:=e= .returned (.int .i64 (fT op))/\Below w.heap.size w w'
theorem Em (w:World):∀op∈([0,1,5,11,15,26,27,2,3,4,12,13,16,32,33,34,35,36,14,17,40,41,44,45,54,55,58,63,64,65,66]:List Int),Calls prog 150 #[.int .i64 op] w (CT op w):=by
 intro op h;simp only [bB,bN,cY]at h;rcases h with rfl | rfl | rfl | rfl | rfl | rfl | rfl | rfl | rfl | rfl | rfl | rfl | rfl | rfl | rfl | rfl | rfl | rfl | rfl | rfl | rfl | rfl | rfl | rfl | rfl | rfl | rfl | rfl | rfl | rfl | rfl
 all_goals
  go_enter func150,ntmps150;go_wp2_with fail;go_ret;exact⟨rfl,an _ _⟩
theorem uT (op:Int) (w:World):Calls prog 150 #[.int .i64 op] w (CT op w):=by
 by_cases h:op∈([0,1,5,11,15,26,27,2,3,4,12,13,16,32,33,34,35,36,14,17,40,41,44,45,54,55,58,63,64,65,66]:List Int)
 ·exact Em w op h
 simp only [bB,bN,cY,not_or]at h;obtain⟨q0,q1,q5,Ph,q15,q26,q27,q2,q3,q4,q12,q13,q16,q32,q33,q34,q35,q36,q14,q17,q40,q41,q44,q45,q54,q55,q58,q63,q64,q65,q66⟩:=h;have HF:Hid (fT op=if(fh op).2.2=true then 1 else 0):=V (by
  unfold fT;rw [aC (by omega),aC (by omega),aC (by omega),aC q14,aC q17,aC (by omega),aC (by omega),aC q65,aC q66])
 replace q0:=ed q0;replace q1:=ed q1;replace q5:=ed q5;replace Ph:=ed Ph;replace q15:=ed q15;replace q26:=ed q26;replace q27:=ed q27;replace q2:=ed q2;replace q3:=ed q3;replace q4:=ed q4;replace q12:=ed q12;replace q13:=ed q13;replace q16:=ed q16;replace q32:=ed q32;replace q33:=ed q33;replace q34:=ed q34;replace q35:=ed q35;replace q36:=ed q36;replace q14:=ed q14;replace q17:=ed q17;replace q40:=ed q40;replace q41:=ed q41;replace q44:=ed q44;replace q45:=ed q45;replace q54:=ed q54;replace q55:=ed q55;replace q58:=ed q58;replace q63:=ed q63;replace q64:=ed q64;replace q65:=ed q65;replace q66:=ed q66;go_enter func150,ntmps150;go_wp2_with fail;refine(DE op _).mono ?_;rintro x w1 ⟨v,rfl,-,hb⟩;clear q0 q1 q5 Ph q15 q26 q27 q2 q3 q4 q12 q13 q16 q32 q33 q34 q35 q36 q14 q17 q40 q41 q44 q45 q54 q55 q58 q63 q64 q65 q66;cases hk:(fh op).2.2 with
 | true=>
  have HK:=V hk;clear hk;go_wp2_with fail;go_ret;exact⟨by rw [HF.out,aJ HK.out];rfl,hb⟩
 | false=>
  have HK:=V hk;clear hk;go_wp2_with fail;go_ret;exact⟨by rw [HF.out,aC (by rw [HK.out];decide)];rfl,hb⟩
theorem kA (n a b:Int) (w:World):Calls prog 151 #[.int .i64 n, .int .i64 a, .int .i64 b] w (eF (ml n a b) w):=by
 by_cases q0:a <=n;rotate_left
 ·have f0:decide (a <=n)=false:=aq q0
  have HB:=V (show ml n a b=false by rw [ml,f0];rfl);go_enter func151,ntmps151;go_wp2_with fail;go_ret;exact⟨by rw [HB.out];rfl,an _ _⟩
 have f0:decide (a <=n)=true:=aA q0;by_cases q1:n <=b
 ·have f1:decide (n <=b)=true:=aA q1
  have HB:=V (show ml n a b=true by rw [ml,f0,f1];rfl);go_enter func151,ntmps151;go_wp2_with fail;go_ret;exact⟨by rw [HB.out];rfl,an _ _⟩
 ·have f1:decide (n <=b)=false:=aq q1
  have HB:=V (show ml n a b=false by rw [ml,f0,f1];rfl);go_enter func151,ntmps151;go_wp2_with fail;go_ret;exact⟨by rw [HB.out];rfl,an _ _⟩
theorem nH (n:Int) (w:World):Calls prog 152 #[.int .i64 n] w (eF (ml n 0 1000) w):=by
 go_enter func152,ntmps152;go_wp2_with fail;refine(kA n 0 1000 _).mono ?_;rintro x w1 ⟨rfl,hb⟩;go_wp2_with fail;go_ret;exact⟨rfl,hb⟩
theorem fA (w:World) (X i:Nat) (v:Value):ee (fun k=>k=X) w (w.setCell ⟨X,i,none⟩ v):=⟨rfl,rfl,rfl,by simp,fun k _ hk=>cM w ⟨X,i,none⟩ v k hk⟩
def th (w0 w:World) (R:Nat) (a:Option Addr) (cap:Nat) (L:List UInt8) (s:IR):Prop:=
 eP w R #[.slice a L.length cap, .int .i64 s.pos, .int .i64 s.err] 347/\eW w0 (.slice a L.length cap) L/\Below w0.heap.size w0 w/\w0.heap.size <=R/\s.ok L
def Af (w0 w:World) (R:Nat) (a:Option Addr) (cap:Nat) (L:List UInt8) (v:Value) (s:IR) (e:Ending) (w':World):Prop:=
 e= .returned v/\th w0 w' R a cap L s/\ee (fun k=>k=R) w w'
theorem th.keeps {w0 w w':World} {R:Nat} {a:Option Addr} {cap:Nat} {L:List UInt8} {s:IR} {S:Nat ->Prop} (h:th w0 w R a cap L s) (hk:ee S w w') (hR:¬ S R) (hS:∀i,S i ->w0.heap.size <=i):th w0 w' R a cap L s:=
 ⟨h.1.keeps hk hR,h.2.1,h.2.2.1.trans (hk.below h.2.2.1.size hS),h.2.2.2⟩
theorem th.set {w0 w:World} {R:Nat} {a:Option Addr} {cap:Nat} {L:List UInt8} {s s':IR} (h:th w0 w R a cap L s) {i:Nat} {v:Value}
  (hc:(#[.slice a L.length cap, .int .i64 s.pos, .int .i64 s.err]:Array Value).setIfInBounds i v=#[.slice a L.length cap, .int .i64 s'.pos, .int .i64 s'.err]) (ho:s'.ok L):th w0 (w.setCell ⟨R,i,none⟩ v) R a cap L s':=
 ⟨by rw [<- hc];exact h.1.set i v,h.2.1,h.2.2.1.setCell h.2.2.2.1 _,h.2.2.2.1,ho⟩
theorem th.drew {w0 w:World} {R:Nat} {a:Option Addr} {cap:Nat} {L:List UInt8} {s:IR} (h:th w0 w R a cap L s):th w0 w.drew R a cap L s:=⟨h.1.drew,h.2.1,h.2.2.1.drew,h.2.2.2⟩
theorem th.bytes {w0 w:World} {R:Nat} {a:Option Addr} {cap:Nat} {L:List UInt8} {s:IR} (h:th w0 w R a cap L s):eW w (.slice a L.length cap) L:=h.2.1.below h.2.2.1
theorem qO (w0 w:World) (R:Nat) (a:Option Addr) (cap:Nat) (L:List UInt8) (s:IR) (h:th w0 w R a cap L s):
  Calls prog 293 #[.pointer (some ⟨R,0,none⟩)] w (Af w0 w R a cap L (.int .i64 (s.byte L).1) (s.byte L).2):=by
 have Mg:=IR.yy h.2.2.2.2;obtain⟨pos,err⟩:=s;have Ml:=h.1;have Ly:=h.2.2.2.2;obtain⟨o1,o2,o3⟩:=Ly;simp only at o1 o2 o3;obtain⟨_,_,OW,PD,NC,-⟩:=h.2.1;injection OW with e1 e2 e3;subst e1 e3;clear e2;unfold maxLen at NC;have d0:=Ml.cell 0;have d1:=Ml.cell 1;have d2:=Ml.cell 2;have z1:=Ml.free 1;have z2:=Ml.free 2;have H:=V h;clear h Ml;simp only at d1 d2;by_cases q1:err=0;rotate_left
 ·have f1:=fw q1
  have HB:=V (show IR.byte L ⟨pos,err⟩=(0,⟨pos,err⟩)by unfold IR.byte;exact if_neg q1);clear q1 Mg;go_enter func293,ntmps293;go_wp2_with fail;go_ret;exact⟨by rw [HB.out];rfl,by rw [HB.out];exact H.out,ee.refl _ _⟩
 subst q1;by_cases q2:pos=L.length
 ·have f2:((pos:Int)==(L.length:Int))=true:=eQ (by omega)
  have HB:=V (show IR.byte L ⟨pos,0⟩=(0,⟨pos,2⟩)by
   unfold IR.byte;rw [aJ rfl,show L[pos]?=none from dn (by omega)])
  have HO:=V Mg;clear q2 Mg;go_enter func293,ntmps293;go_wp2_with fail;refine eu (fun w'=>w'.cell? ⟨R,0,none⟩=some (.slice a L.length cap)/\w'.cell? ⟨R,1,none⟩=some (.int .i64 pos)) (up 0 11 []) (by kernel_rfl) (by kernel_rfl) ⟨d0,d1⟩ ?_;iterate 11 (first | (apply sk rfl rfl;simp only [pt]) | (apply ef rfl rfl rfl;·(rintro w' ⟨t0,t1⟩;go_wp2;exact⟨rfl,rfl,rfl⟩)))
  refine eV ?_;refine aD ?_;go_wp2_with fail;go_ret;exact⟨by rw [HB.out];rfl,by rw [HB.out];exact H.out.drew.set rfl (by have:=HO.out;rw [HB.out]at this;exact this),(ee.refl _ _).drew.trans (fA _ R 2 _) (fun _ h=> .inl h)⟩
 ·have f2:((pos:Int)==(L.length:Int))=false:=ed (by omega)
  have Lw:pos < L.length:=by omega
  obtain⟨c,hc⟩:∃c,L[pos]?=some c:=⟨_,aw Lw⟩;have HB:=V (show IR.byte L ⟨pos,0⟩=(c.toNat,⟨pos+1,0⟩)by
   unfold IR.byte;rw [aJ rfl,hc])
  have HO:=V Mg;obtain⟨_,_,OW,-,-,Ln⟩:=H.out.bytes;injection OW with e1 e2 e3;subst e1 e3;obtain⟨g,off,rfl,hg⟩:=Ln pos c hc;have hgR:g≠R:=by
   have h1:=aT w _ hg;obtain⟨_,_,OW,-,-,hcells0⟩:=H.out.2.1;injection OW with e1 e2 e3;obtain⟨g',off',e4,RU⟩:=hcells0 pos c hc;rw [<- e1]at e4;injection e4 with e4;injection e4 with e4 e5;have h2:=aT w0 _ RU;have h3:=H.out.2.2.2.1;intro h4;rw [h4]at e4;rw [<- e4]at h2;exact absurd h3 (Nat.not_le.2 h2)
  have PE:((w.drew.setCell ⟨R,1,none⟩ (.int .i64 ((pos:Int)+1)))).cell? ⟨g,off+pos,none⟩=some (bv c):=by
   rw [bg (w:=w) (a:=⟨g,off+pos,none⟩) (cM w.drew ⟨R,1,none⟩ _ g hgR)];exact hg
  have P5:=(H.out.drew.1).set 1 (.int .i64 ((pos:Int)+1));have d0':(w.drew.setCell ⟨R,1,none⟩ (.int .i64 ((pos:Int)+1))).cell? ⟨R,0,none⟩=some (.slice (some ⟨g,off,none⟩) L.length cap):=P5.cell 0;have d1':(w.drew.setCell ⟨R,1,none⟩ (.int .i64 ((pos:Int)+1))).cell? ⟨R,1,none⟩=some (.int .i64 ((pos:Int)+1)):=P5.cell 1;have hcb:(c.toNat:Int) <=255:=by have:=c.toNat_lt;omega
  have hcb0:(0:Int) <=(c.toNat:Int):=by omega
  clear q2 Mg Ln e2 hc hg hgR P5;go_enter func293,ntmps293;go_wp2_with fail;refine eu (fun w'=>w'.cell? ⟨R,0,none⟩=some (.slice (some ⟨g,off,none⟩) L.length cap)/\w'.cell? ⟨R,1,none⟩=some (.int .i64 pos)) (up 0 11 []) (by kernel_rfl) (by kernel_rfl) ⟨d0,d1⟩ ?_;iterate 11 (first | (apply sk rfl rfl;simp only [pt]) | (apply ef rfl rfl rfl;·(rintro w' ⟨t0,t1⟩;go_wp2;exact⟨rfl,rfl,rfl⟩)))
  refine eV ?_;refine aD ?_;go_wp2_with fail;refine eu (fun w'=>w'.cell? ⟨R,0,none⟩=some (.slice (some ⟨g,off,none⟩) L.length cap)/\w'.cell? ⟨R,1,none⟩=some (.int .i64 ((pos:Int)+1))/\w'.cell? ⟨g,off+pos,none⟩=some (bv c)) (up 0 13 []) (by kernel_rfl) (by kernel_rfl) ⟨d0',d1',PE⟩ ?_;iterate 13 (first | (apply sk rfl rfl;simp only [pt]) | (apply ef rfl rfl rfl;·(rintro w' ⟨t0,t1,t2⟩;go_wp2;exact⟨rfl,rfl,rfl⟩)))
  refine eV ?_;refine aD ?_;go_wp2_with fail;go_ret;exact⟨by rw [HB.out];rfl,by rw [HB.out];exact(H.out.drew.set rfl (by have:=HO.out;rw [HB.out]at this;exact this)).drew,((ee.refl _ _).drew.trans (fA _ R 1 _) (fun _ h=> .inl h)).drew⟩
theorem uF (w0 w:World) (R:Nat) (a:Option Addr) (cap:Nat) (L:List UInt8) (s:IR) (h:th w0 w R a cap L s):
  Calls prog 296 #[.pointer (some ⟨R,0,none⟩)] w (Af w0 w R a cap L (.tuple #[]) (s.zero L)):=by
 have Mg:=IR.IW h.2.2.2.2;have HH:=V h;obtain⟨s1,MU⟩:∃s1,(s.byte L).2=s1:=⟨_,rfl⟩;obtain⟨v1,OJ⟩:∃v1,(s.byte L).1=v1:=⟨_,rfl⟩;have HO:=V Mg;have H1:=V MU;have V1:=V OJ;clear h Mg MU OJ;go_enter func296,ntmps296;go_wp2_with fail;refine(qO w0 _ R a cap L s HH.out).mono ?_;rintro e w1 ⟨rfl,h1,hk⟩;rw [V1.out];rw [H1.out]at h1;have z2:=h1.1.free 2;have d2:w1.cell? ⟨R,2,none⟩=some (.int .i64 s1.err):=h1.1.cell 2;have HI:=V h1;clear h1;by_cases q:v1=0
 ·have f:=jI (show(v1:Int)=0 by omega)
  have HZ:=V (show s.zero L=s1 by unfold IR.zero;rw [V1.out,if_pos q,H1.out]);clear q;go_wp2_with fail
  go_end0
  exact⟨rfl,by rw [HZ.out];exact HI.out,hk⟩
 ·have f:=fw (show(v1:Int)≠0 by omega)
  have HZ:=V (show s.zero L=⟨s1.pos,1⟩by unfold IR.zero;rw [V1.out,if_neg q,H1.out]);clear q;go_wp2_with fail
  go_end0
  exact⟨rfl,by rw [HZ.out];exact HI.out.set rfl (by have:=HO.out;rw [HZ.out]at this;exact this),hk.trans (fA _ R 2 _) (fun _ h=> .inl h)⟩
theorem zV (a:Option Addr) (cap:Nat) {L:List UInt8} {pos:Nat} (h:pos <=L.length):∃a2 Lu,
  (∀wx,(Instr.slice 97 (.slice a L.length cap) (some (.int .i64 pos)) none none).run prog wx= .ok (.slice a2 (L.drop pos).length Lu) wx)/\
  (∀wy,eW wy (.slice a L.length cap) L ->eW wy (.slice a2 (L.drop pos).length Lu) (L.drop pos)):=by
 obtain⟨a2,Lu,h1,h2,-⟩:=oI (show L=L.take pos++L.drop pos from(cn pos L).symm) a cap;rw [aS,cD h]at h1;exact⟨a2,Lu,h1,h2⟩
theorem Df (l:List UInt8):(ix 32 l).1 < 4294967296:=by
 unfold ix;split
 ·simp
 ·split
  ·rename_i h
   simpa using h.2
  ·simp
theorem lL (w0 w:World) (R:Nat) (a:Option Addr) (cap:Nat) (L:List UInt8) (s:IR) (h:th w0 w R a cap L s) (lim:Nat):
  Calls prog 295 #[.pointer (some ⟨R,0,none⟩), .int .i64 lim] w (Af w0 w R a cap L (.int .i64 (s.kl L lim).1) (s.kl L lim).2):=by
 have Mg:=IR.Jo (lim:=lim) h.2.2.2.2;obtain⟨pos,err⟩:=s;have Ml:=h.1;have Ly:=h.2.2.2.2;obtain⟨o1,o2,o3⟩:=Ly;simp only at o1 o2 o3;obtain⟨_,_,OW,PD,NC,-⟩:=h.2.1;injection OW with e1 e2 e3;subst e1 e3;clear e2;unfold maxLen at NC;have d0:=Ml.cell 0;have d1:=Ml.cell 1;have d2:=Ml.cell 2;have z1:=Ml.free 1;have z2:=Ml.free 2;have H:=V h;clear h Ml;simp only at d1 d2;by_cases q1:err=0;rotate_left
 ·have f1:=fw q1
  have HB:=V (show IR.kl L lim ⟨pos,err⟩=(0,⟨pos,err⟩)by unfold IR.kl;exact if_neg q1);clear q1 Mg;go_enter func295,ntmps295;go_wp2_with fail;go_ret;exact⟨by rw [HB.out];rfl,by rw [HB.out];exact H.out,ee.refl _ _⟩
 subst q1;obtain⟨a2,Lu,OW,hi⟩:=zV a cap o1;obtain⟨n,k,er,L6⟩:∃n k er,ix 32 (L.drop pos)=(n,k,er):=⟨_,_,_,rfl⟩;have hn:n < 4294967296:=by have:=Df (L.drop pos);rw [L6]at this;exact this
 have hk:pos+k <=L.length:=by have:=xS 32 (L.drop pos);rw [L6,bu]at this;simp only at this;omega
 have HB:=V (show IR.kl L lim ⟨pos,0⟩=if er=0 then(if lim < n then(0,⟨pos,1⟩)else(n,⟨pos+k,0⟩))else(0,⟨pos,er⟩)by unfold IR.kl;simp only [L6,if_true]);obtain⟨q,hq⟩:∃q,L.drop pos=q:=⟨_,rfl⟩;rw [hq]at OW hi L6;have HI:=V hi;have HO:=V Mg;clear hi Mg hq;by_cases q2:er=0;rotate_left
 ·have f2:=fw q2
  have f3:=ed q2;replace HB:=V (show IR.kl L lim ⟨pos,0⟩=(0,⟨pos,er⟩)by rw [HB.out,aC q2]);clear q2;go_enter func295,ntmps295;go_wp2_with fail;refine eu (fun w'=>w'.cell? ⟨R,0,none⟩=some (.slice a L.length cap)/\w'.cell? ⟨R,1,none⟩=some (.int .i64 pos)) (up 0 9 ((9,false)::up 10 7 [])) (by kernel_rfl) (by kernel_rfl) ⟨d0,d1⟩ ?_;iterate 9 (first | (apply sk rfl rfl;simp only [pt]) | (apply ef rfl rfl rfl;·(rintro w' ⟨t0,t1⟩;go_wp2;exact⟨rfl,rfl,rfl⟩)))
  refine eo rfl rfl ?_;go_wp2_with fail;refine(vt _ q _ _ ((HI.out _ H.out.bytes).below (an _ _).drew) (by omega) (by omega)).mono ?_;rintro e w1 ⟨rfl,hb⟩;have LP:Below w.heap.size w w1:=gd hb;rw [L6];have Mu:=H.out.1.below LP H.out.1.lt;have d0':w1.cell? ⟨R,0,none⟩=some (.slice a L.length cap):=Mu.cell 0;have d1':w1.cell? ⟨R,1,none⟩=some (.int .i64 pos):=Mu.cell 1;have d2':w1.cell? ⟨R,2,none⟩=some (.int .i64 0):=Mu.cell 2;have z1':=Mu.free 1;have z2':=Mu.free 2;have h1:th w0 w1 R a cap L ⟨pos,0⟩:=⟨Mu,H.out.2.1,H.out.2.2.1.trans (LP.mono H.out.2.2.1.size),H.out.2.2.2⟩;have H1:=V h1;have HB1:=V LP;clear h1 Mu hb LP d0 d1 d2 z1 z2 OW L6;go_wp2_with fail;refine⟨⟨d0',d1'⟩,?_⟩;iterate 7 (first | (apply sk rfl rfl;simp only [pt]) | (apply ef rfl rfl rfl;·(rintro w' ⟨t0,t1⟩;go_wp2;exact⟨rfl,rfl,rfl⟩)))
  refine eV ?_;refine aD ?_;go_wp2_with fail;go_ret;have hk:=(ee.eh (S:=fun k=>k=R) HB1.out).trans (fA w1 R 2 (.int .i64 er)) (fun _ h=> .inl h);exact⟨by rw [HB.out];rfl,by rw [HB.out];exact H1.out.set rfl (by have:=HO.out;rw [HB.out]at this;exact this),hk⟩
 subst q2;by_cases q3:lim < n
 ·have f3:decide (lim < n)=true:=aA q3
  replace HB:=V (show IR.kl L lim ⟨pos,0⟩=(0,⟨pos,1⟩)by rw [HB.out,aJ rfl,aJ q3]);clear q3;go_enter func295,ntmps295;go_wp2_with fail;refine eu (fun w'=>w'.cell? ⟨R,0,none⟩=some (.slice a L.length cap)/\w'.cell? ⟨R,1,none⟩=some (.int .i64 pos)) (up 0 9 ((9,false)::up 10 7 [])) (by kernel_rfl) (by kernel_rfl) ⟨d0,d1⟩ ?_;iterate 9 (first | (apply sk rfl rfl;simp only [pt]) | (apply ef rfl rfl rfl;·(rintro w' ⟨t0,t1⟩;go_wp2;exact⟨rfl,rfl,rfl⟩)))
  refine eo rfl rfl ?_;go_wp2_with fail;refine(vt _ q _ _ ((HI.out _ H.out.bytes).below (an _ _).drew) (by omega) (by omega)).mono ?_;rintro e w1 ⟨rfl,hb⟩;have LP:Below w.heap.size w w1:=gd hb;rw [L6];have Mu:=H.out.1.below LP H.out.1.lt;have d0':w1.cell? ⟨R,0,none⟩=some (.slice a L.length cap):=Mu.cell 0;have d1':w1.cell? ⟨R,1,none⟩=some (.int .i64 pos):=Mu.cell 1;have d2':w1.cell? ⟨R,2,none⟩=some (.int .i64 0):=Mu.cell 2;have z1':=Mu.free 1;have z2':=Mu.free 2;have h1:th w0 w1 R a cap L ⟨pos,0⟩:=⟨Mu,H.out.2.1,H.out.2.2.1.trans (LP.mono H.out.2.2.1.size),H.out.2.2.2⟩;have H1:=V h1;have HB1:=V LP;clear h1 Mu hb LP d0 d1 d2 z1 z2 OW L6;go_wp2_with fail;refine⟨⟨d0',d1'⟩,?_⟩;iterate 7 (first | (apply sk rfl rfl;simp only [pt]) | (apply ef rfl rfl rfl;·(rintro w' ⟨t0,t1⟩;go_wp2;exact⟨rfl,rfl,rfl⟩)))
  refine eV ?_;refine aD ?_;go_wp2_with fail;go_ret;have hk:=(ee.eh (S:=fun k=>k=R) HB1.out).trans (fA w1 R 2 (.int .i64 1)) (fun _ h=> .inl h);exact⟨by rw [HB.out];rfl,by rw [HB.out];exact H1.out.set rfl (by have:=HO.out;rw [HB.out]at this;exact this),hk⟩
 ·have f3:decide (lim < n)=false:=aq q3
  replace HB:=V (show IR.kl L lim ⟨pos,0⟩=(n,⟨pos+k,0⟩)by rw [HB.out,aJ rfl,aC q3]);clear q3;go_enter func295,ntmps295;go_wp2_with fail;refine eu (fun w'=>w'.cell? ⟨R,0,none⟩=some (.slice a L.length cap)/\w'.cell? ⟨R,1,none⟩=some (.int .i64 pos)) (up 0 9 ((9,false)::up 10 7 [])) (by kernel_rfl) (by kernel_rfl) ⟨d0,d1⟩ ?_;iterate 9 (first | (apply sk rfl rfl;simp only [pt]) | (apply ef rfl rfl rfl;·(rintro w' ⟨t0,t1⟩;go_wp2;exact⟨rfl,rfl,rfl⟩)))
  refine eo rfl rfl ?_;go_wp2_with fail;refine(vt _ q _ _ ((HI.out _ H.out.bytes).below (an _ _).drew) (by omega) (by omega)).mono ?_;rintro e w1 ⟨rfl,hb⟩;have LP:Below w.heap.size w w1:=gd hb;rw [L6];have Mu:=H.out.1.below LP H.out.1.lt;have d0':w1.cell? ⟨R,0,none⟩=some (.slice a L.length cap):=Mu.cell 0;have d1':w1.cell? ⟨R,1,none⟩=some (.int .i64 pos):=Mu.cell 1;have d2':w1.cell? ⟨R,2,none⟩=some (.int .i64 0):=Mu.cell 2;have z1':=Mu.free 1;have z2':=Mu.free 2;have h1:th w0 w1 R a cap L ⟨pos,0⟩:=⟨Mu,H.out.2.1,H.out.2.2.1.trans (LP.mono H.out.2.2.1.size),H.out.2.2.2⟩;have H1:=V h1;have HB1:=V LP;clear h1 Mu hb LP d0 d1 d2 z1 z2 OW L6;go_wp2_with fail;refine⟨⟨d0',d1'⟩,?_⟩;iterate 7 (first | (apply sk rfl rfl;simp only [pt]) | (apply ef rfl rfl rfl;·(rintro w' ⟨t0,t1⟩;go_wp2;exact⟨rfl,rfl,rfl⟩)))
  refine eV ?_;refine aD ?_;go_wp2_with fail;go_ret;have hk:=(ee.eh (S:=fun k=>k=R) HB1.out).trans ((fA w1 R 2 (.int .i64 0)).trans (fA _ R 1 (.int .i64 ((pos:Int)+k))) (fun _ h=> .inl h)) (fun _ h=> .inl h);have h2:=H1.out.set (s':=⟨pos,0⟩) (i:=2) (v:= .int .i64 0) rfl H1.out.2.2.2.2;exact⟨by rw [HB.out];rfl,by rw [HB.out];exact h2.set rfl (by have:=HO.out;rw [HB.out]at this;exact this),hk⟩
theorem wO (w0 w:World) (R:Nat) (a:Option Addr) (cap:Nat) (L:List UInt8) (s:IR) (h:th w0 w R a cap L s) (he:s.err=0) (bits:Int) (LC:1 <=bits) (Lr:bits <=64):
  Calls prog 297 #[.pointer (some ⟨R,0,none⟩), .int .i64 bits] w (Af w0 w R a cap L (.int .i64 (s.qG L bits).1) (s.qG L bits).2):=by
 have Mg:=IR.JP (bits:=bits) h.2.2.2.2;obtain⟨pos,err⟩:=s;have Ml:=h.1;have Ly:=h.2.2.2.2;obtain⟨o1,o2,o3⟩:=Ly;simp only at o1 o2 o3;obtain⟨_,_,OW,PD,NC,-⟩:=h.2.1;injection OW with e1 e2 e3;subst e1 e3;clear e2;unfold maxLen at NC;have d0:=Ml.cell 0;have d1:=Ml.cell 1;have d2:=Ml.cell 2;have z1:=Ml.free 1;have z2:=Ml.free 2;have H:=V h;clear h Ml;simp only at d1 d2;simp only at he;subst he;obtain⟨a2,Lu,OW,hi⟩:=zV a cap o1;obtain⟨n,k,er,L6⟩:∃n k er,jF bits (L.drop pos)=(n,k,er):=⟨_,_,_,rfl⟩;have hk:pos+k <=L.length:=by have:=C0 bits (L.drop pos);rw [L6,bu]at this;simp only at this;omega
 have HB:=V (show IR.qG L bits ⟨pos,0⟩=(n,⟨pos+k,er⟩)by unfold IR.qG;simp only [L6]);obtain⟨q,hq⟩:∃q,L.drop pos=q:=⟨_,rfl⟩;rw [hq]at OW hi L6;have HI:=V hi;have HO:=V Mg;clear hi Mg hq;go_enter func297,ntmps297;go_wp2_with fail;refine eu (fun w'=>w'.cell? ⟨R,0,none⟩=some (.slice a L.length cap)/\w'.cell? ⟨R,1,none⟩=some (.int .i64 pos)) (up 0 10 ((10,false)::up 11 7 [])) (by kernel_rfl) (by kernel_rfl) ⟨d0,d1⟩ ?_;iterate 10 (first | (apply sk rfl rfl;simp only [pt]) | (apply ef rfl rfl rfl;·(rintro w' ⟨t0,t1⟩;go_wp2;exact⟨rfl,rfl,rfl⟩)))
 refine eo rfl rfl ?_;go_wp2_with fail;refine(CP _ q _ _ ((HI.out _ H.out.bytes).below (an _ _).drew) (by omega) (by omega)).mono ?_;rintro e w1 ⟨rfl,hb⟩;have LP:Below w.heap.size w w1:=gd hb;rw [L6];have Mu:=H.out.1.below LP H.out.1.lt;have d0':w1.cell? ⟨R,0,none⟩=some (.slice a L.length cap):=Mu.cell 0;have d1':w1.cell? ⟨R,1,none⟩=some (.int .i64 pos):=Mu.cell 1;have d2':w1.cell? ⟨R,2,none⟩=some (.int .i64 0):=Mu.cell 2;have z1':=Mu.free 1;have z2':=Mu.free 2;have h1:th w0 w1 R a cap L ⟨pos,0⟩:=⟨Mu,H.out.2.1,H.out.2.2.1.trans (LP.mono H.out.2.2.1.size),H.out.2.2.2⟩;have H1:=V h1;have HB1:=V LP;clear h1 Mu hb LP d0 d1 d2 z1 z2 OW L6;go_wp2_with fail;refine⟨⟨d0',d1'⟩,?_⟩;iterate 7 (first | (apply sk rfl rfl;simp only [pt]) | (apply ef rfl rfl rfl;·(rintro w' ⟨t0,t1⟩;go_wp2;exact⟨rfl,rfl,rfl⟩)))
 refine eV ?_;refine aD ?_;go_wp2_with fail;go_ret;have hk:=(ee.eh (S:=fun k=>k=R) HB1.out).trans ((fA w1 R 1 (.int .i64 ((pos:Int)+k))).trans (fA _ R 2 (.int .i64 er)) (fun _ h=> .inl h)) (fun _ h=> .inl h);have hO:IR.ok L ⟨pos+k,er⟩:=by have:=HO.out;rw [HB.out]at this;exact this
 have h2:=H1.out.set (s':=⟨pos+k,0⟩) (i:=1) (v:= .int .i64 ((pos:Int)+k)) rfl ⟨hO.1,by simp,by simp⟩;exact⟨by rw [HB.out];rfl,by rw [HB.out];exact h2.set rfl hO,hk⟩
theorem GS (w:World) (l:List Int) (t:TypeId) (hl:l.length <=1000):ew 1 fp (w.alloc (.cells (l.map fun n=>Value.int .i64 n).toArray t)) (.slice (some ⟨w.heap.size,0,none⟩) l.length l.length) l:=by
 refine⟨_,l.length,rfl,ag _,by simp only [maxLen];omega,fun i y hy=>⟨w.heap.size,0,rfl,by simp,fun j u hu=>?_⟩⟩;rw [bQ]
 match j,hu with
 | 0,hu=>
  simp [fp]at hu;simp [hy,hu]
 | j+1,hu=>simp [fp]at hu
theorem AD (v:Value) (l:List Int) (x:Int) (w:World) (hl:ew 1 fp w v l):
  Calls prog 299 #[v, .int .i64 x] w (kj (fun n=>x==n) l w):=by
 have HI:=V hl;obtain⟨a,cap,rfl,h1,h2,_⟩:=id hl;unfold maxLen at h2;clear hl;go_enter func299,ntmps299;go_wp2_with fail;refine eJ (fun a' w'=>∃(k:Nat),a'=fr (.slice a l.length cap:: .int .i64 x::gs a' 2 5 (.int .i64 l.length:: .int .i64 k::gs a' 9 10 []))/\qc (fun n=>x==n) l w w' k) (fun a' _=>(l.length - (intOf (a'.tmps.getD 8 undef)).toNat)) ?_ ?_
 ·exact⟨0,rfl,by omega,fun i hi=>by omega,an _ _⟩
 ·skip
  rintro R a' w1 ⟨k,Lp,hJ⟩ HR;dsimp only [fr,gs]at Lp;generalize slot a'=f at Lp;subst Lp;obtain⟨hk,hm,hb⟩:=hJ;have Mt:=V hm;clear hm;by_cases Mm:k < l.length;rotate_left
  ·obtain rfl:k=l.length:=by omega
   go_wp2_with fail;go_ret;exact⟨by rw [hI Mt.out];rfl,hb⟩
  obtain⟨e,he⟩:∃e,l[k]?=some e:=⟨_,aw Mm⟩;obtain⟨a',LO,hv,_,_,Ln⟩:=HI.out.below (hb.mono (ag _));injection hv with e1 e2 e3;subst e1 e3;obtain⟨b,off,rfl,Lw,hc⟩:=Ln k e he;have c0:=hc 0 _ rfl;rw [aK,bq]at c0;have HE:=V he;clear Ln e2 he hc;by_cases q:x=e
  ·have f:=eQ q
   have HQ:=V (show(x==e)=true from f);clear q;go_wp2_with fail;go_ret;exact⟨by rw [iA HE.out HQ.out Mt.out];rfl,hb⟩
  ·have f:=ed q
   have HQ:=V (show(x==e)=false from f);clear q;go_wp2_with fail;refine HR.out _ _ ⟨k+1,rfl,by omega,?_,hb⟩ ?_
   ·intro i hi d hd
    rcases bD i k with h | h
    ·exact Mt.out i h d hd
    ·obtain rfl:i=k:=by omega
     rw [HE.out]at hd;injection hd with hd;rw [<- hd];exact HQ.out
   ·simp [intOf]
    omega
theorem AQ (w0 w:World) (R:Nat) (a:Option Addr) (cap:Nat) (L:List UInt8) (s:IR) (h:th w0 w R a cap L s):
  Calls prog 294 #[.pointer (some ⟨R,0,none⟩)] w (Af w0 w R a cap L (.int .i64 (s.kind L).1) (s.kind L).2):=by
 have Mg:=IR.He h.2.2.2.2;have HH:=V h;obtain⟨s1,MU⟩:∃s1,(s.byte L).2=s1:=⟨_,rfl⟩;obtain⟨v1,OJ⟩:∃v1,(s.byte L).1=v1:=⟨_,rfl⟩;have HO:=V Mg;have H1:=V MU;have V1:=V OJ;have HK:=V (show s.kind L=if v1=64 then(0,s1)else if v1=127 then(1,s1)else if v1=126 then(2,s1)else(0,if s1.err=0 then⟨s1.pos,1⟩else s1)by unfold IR.kind;rw [MU,OJ]);clear h Mg MU OJ;go_enter func294,ntmps294;go_wp2_with fail;refine(qO w0 _ R a cap L s HH.out).mono ?_;rintro e w1 ⟨rfl,h1,hk⟩;rw [V1.out];rw [H1.out]at h1;have HI1:=V h1;have HK1:=V hk;clear h1 hk;go_wp2_with fail;refine(AD _ [64,127,126] v1 _ (GS w1 [64,127,126] _ (by simp))).mono ?_;rintro e w2 ⟨rfl,hb⟩;have LP:Below w1.heap.size w1 w2:=((an _ _).alloc (ag _) _).trans (hb.mono (by simp));have h2:th w0 w2 R a cap L s1:=HI1.out.keeps (ee.eh (S:=fun _=>False) LP) (fun h=>h) (fun _ h=>h.elim);have z2:=h2.1.free 2;have d2:w2.cell? ⟨R,2,none⟩=some (.int .i64 s1.err):=h2.1.cell 2;have OC:=V h2;have MI:=V (HK1.out.trans (ee.eh (S:=fun k=>k=R) LP) (fun _ h=> .inl h));clear h2 hb LP;by_cases q0:v1=64
 ·have hx:tc (fun n=>((v1:Nat):Int)==n) [64,127,126]=0:=by rw [q0];rfl
  replace HK:=V (show s.kind L=(0,s1)by rw [HK.out,aJ q0]);rw [hx];clear hx q0;go_wp2_with fail;go_ret;exact⟨by rw [HK.out];rfl,by rw [HK.out];exact OC.out,MI.out⟩
 by_cases q1:v1=127
 ·have hx:tc (fun n=>((v1:Nat):Int)==n) [64,127,126]=1:=by rw [q1];rfl
  replace HK:=V (show s.kind L=(1,s1)by rw [HK.out,aC q0,aJ q1]);rw [hx];clear hx q0 q1;go_wp2_with fail;go_ret;exact⟨by rw [HK.out];rfl,by rw [HK.out];exact OC.out,MI.out⟩
 by_cases q2:v1=126
 ·have hx:tc (fun n=>((v1:Nat):Int)==n) [64,127,126]=2:=by rw [q2];rfl
  replace HK:=V (show s.kind L=(2,s1)by rw [HK.out,aC q0,aC q1,aJ q2]);rw [hx];clear hx q0 q1 q2;go_wp2_with fail;go_ret;exact⟨by rw [HK.out];rfl,by rw [HK.out];exact OC.out,MI.out⟩
 have hx:tc (fun n=>((v1:Nat):Int)==n) [64,127,126]= -1:=by
  have h0:(((v1:Nat):Int)==64)=false:=ed (by omega);have h1:(((v1:Nat):Int)==127)=false:=ed (by omega);have h2:(((v1:Nat):Int)==126)=false:=ed (by omega);simp [tc,List.findIdx?_cons,h0,h1,h2]
 replace HK:=V (show s.kind L=(0,if s1.err=0 then⟨s1.pos,1⟩else s1)by rw [HK.out,aC q0,aC q1,aC q2]);rw [hx];clear hx q0 q1 q2;by_cases q:s1.err=0
 ·have f:=eQ q
  replace HK:=V (show s.kind L=(0,⟨s1.pos,1⟩)by rw [HK.out,aJ q]);clear q;go_wp2_with fail;go_ret;exact⟨by rw [HK.out];rfl,by rw [HK.out];exact OC.out.set rfl (by have:=HO.out;rw [HK.out]at this;exact this),MI.out.trans (fA _ R 2 _) (fun _ h=> .inl h)⟩
 ·have f:=ed q
  replace HK:=V (show s.kind L=(0,s1)by rw [HK.out,aC q]);clear q;go_wp2_with fail;go_ret;exact⟨by rw [HK.out];rfl,by rw [HK.out];exact OC.out,MI.out⟩

section
inductive Ord where
 | nil:Ord
 | cons (i:Nat) (b:Bool) (rest:Ord):Ord
 | fork (i j:Nat) (ri rj:Ord):Ord
def Ord.depth:Ord ->Nat
 | .nil=>0
 | .cons _ _ r=>r.depth+1
 | .fork _ _ a b=>max a.depth b.depth+1
def ord:List (Nat × Bool) ->Ord ->Ord
 | [],r=>r
 | (i,b)::l,r=> .cons i b (ord l r)
def kW (P:Program) (ops:List Oper) (Q:Exit ->Act ->World ->Prop) (S:World ->Prop):Ord ->Act ->World ->Prop
 | .nil,a,w=>Q .normal a w
 | Ord.cons i true rest,a,w=>∃o,nth ops i=some o/\
   ((ko ops o.guard a=true/\∃d,o.dst=some d/\d < a.tmps.size/\∃a',(∀w',S w' ->wpList P #[] (Cv a' w') [bare o] a w')/\kW P ops Q S rest a' w)\/
    (ko ops o.guard a=false/\kW P ops Q S rest (a.put o.dst undef) w))
 | Ord.cons i false rest,a,w=>∃o,nth ops i=some o/\
   ((ko ops o.guard a=true/\wpList P #[] (nK Q S (kW P ops Q S rest)) [bare o] a w)\/
    (ko ops o.guard a=false/\kW P ops Q S rest (a.put o.dst undef) w))
 | .fork i j ri rj,a,w=>(∃o,nth ops i=some o/\
   ((ko ops o.guard a=true/\wpList P #[] (nK Q S (kW P ops Q S ri)) [bare o] a w)\/
    (ko ops o.guard a=false/\kW P ops Q S ri (a.put o.dst undef) w)))/\(∃o,nth ops j=some o/\
   ((ko ops o.guard a=true/\wpList P #[] (nK Q S (kW P ops Q S rj)) [bare o] a w)\/
    (ko ops o.guard a=false/\kW P ops Q S rj (a.put o.dst undef) w)))
def qw (ops:Array Oper):Ord ->Array Bool ->Bool
 | .nil,listed=>(Region.ready .any ops listed).isEmpty
 | Ord.cons i true rest,listed=>(ops[i]?.any fun o=>isVal o.op)&&(Region.ready .any ops listed).contains i&&Region.free .any ops listed i&&qw ops rest (listed.setIfInBounds i true)
 | Ord.cons i false rest,listed=>(Region.ready .any ops listed==[i])&&qw ops rest (listed.setIfInBounds i true)
 | .fork i j ri rj,listed=>(Region.ready .any ops listed==[i,j])&&qw ops ri (listed.setIfInBounds i true)&&qw ops rj (listed.setIfInBounds j true)
theorem kM {P:Program} {ops:Array Oper} {Q:Exit ->Act ->World ->Prop} {S:World ->Prop} {j:Nat} {K K':Act ->World ->Prop} {a:Act} {w:World} (hS:S w) (hK:∀a w,S w ->K a w ->K' a w)
  (h:∃o,nth ops.toList j=some o/\((ko ops.toList o.guard a=true/\wpList P #[] (nK Q S K) [bare o] a w)\/(ko ops.toList o.guard a=false/\K (a.put o.dst undef) w))):
  wpOp P ops Q j (fun a' w'=>S w'/\K' a' w') a w:=by
 obtain⟨o,ho,h⟩:=h;rw [nO,cm]at ho;unfold wpOp;simp only [ho];rw [kY];rcases h with⟨hg,hw⟩ | ⟨hg,hk⟩
 ·rw [aJ hg]
  have MT:∀a' w',nK Q S K .normal a' w' ->S w'/\K' a' w':=fun a' w' h=>⟨h.1,hK _ _ h.1 h.2⟩;have O2:LetsOut (nK Q S K) ->LetsOut Q:=fun⟨a,w,h⟩=>⟨a,w,h⟩;rcases lW hw with h1 | ⟨h1,h2⟩
  ·left
   unfold Oper.wp at h1⊢;rw [iF]at h1;generalize(execOp a.eval o).run P w=r at*;cases r with
   | ok n w'=>
    cases n <;>simp only [Oper.upon]at h1⊢
    case value=>exact MT _ _ h1
    case skip=>exact MT _ _ h1
    case defer=>exact MT _ _ h1
    case enter=>
     refine bU h1 fun e w'' he=>?_;cases e with
     | returned v=>exact MT _ _ he
     | panicked c=>exact he.elim
     | outgrown=>exact O2 he
    case row=>exact Rows.mono h1 fun v w'' he=>MT _ _ he
   | halt x w'=>
    cases x <;>simp only [Oper.upon]at h1⊢
    case panic=>exact h1.elim
  ·exact .inr ⟨h1,O2 h2⟩
 ·rw [aC (by rw [hg];simp)]
  exact⟨hS,hK _ _ hS hk⟩
theorem lM {P:Program} {ops:Array Oper} {Q:Exit ->Act ->World ->Prop} {S:World ->Prop} (hQ:∀c a w,¬ Q (.panic c) a w) (hs:Region.noSelect ops=true):
  ∀(l:Ord) (fuel:Nat) (listed:Array Bool) (a:Act) (w:World),l.depth <=fuel ->qw ops l listed=true ->S w ->
   kW P ops.toList Q S l a w ->wpAnyH P .any ops Q S fuel listed a w
 | .nil,fuel,listed,a,w,_,Ly,_,h=>by
  simp only [qw,List.isEmpty_iff]at Ly;exact wpAnyH_done Ly h fuel
 | Ord.cons i true rest,0,_,_,_,hl,_,_,_=>by simp [Ord.depth]at hl
 | Ord.cons i false rest,0,_,_,_,hl,_,_,_=>by simp [Ord.depth]at hl
 | Ord.cons i true rest,fuel+1,listed,a,w,hl,Ly,hS,h=>by
  simp only [qw,bz]at Ly;obtain⟨⟨⟨hv,hr⟩,hf⟩,Ma⟩:=Ly;simp only [Ord.depth]at hl;obtain⟨o,ho,h⟩:=h;rw [nO,cm]at ho;rw [ho]at hv;simp only [Option.any_some]at hv;rcases h with⟨hg,d,hd,hds,a',hp,hk⟩ | ⟨hg,hk⟩
  ·refine wpAnyH_take (v:=a'.tmps.getD d undef) ho hs hf hr (fun c a w h=>(hQ _ _ _ h).elim) (.inl ⟨by rw [kY];exact hg,fun w' hw'=>?_⟩) hS ?_
   ·rcases lW (hp w' hw')with h1 | ⟨_,h2⟩
    ·unfold Oper.wp at h1
     rw [iF]at h1;rcases lU (P:=P) (ρ:=a.eval) hv w' with⟨v,w2,LA⟩ | ⟨x,w2,LA⟩
     ·rw [LA]at h1⊢
      obtain⟨_,h3,h4⟩:=h1;subst h4;subst h3;have:(bare o).dst=some d:=hd;rw [this];simp [Act.put,hds]
     ·rw [LA]at h1
      cases x <;>simp only [Oper.upon]at h1
      case panic=>exact absurd h1.1 (by simp)
    ·obtain⟨_,_,h3,_⟩:=h2
     exact absurd h3 (by simp)
   ·have ha:a.put o.dst (a'.tmps.getD d undef)=a':=by
     rcases lW (hp w hS)with h1 | ⟨_,h2⟩
     ·unfold Oper.wp at h1
      rw [iF]at h1;rcases lU (P:=P) (ρ:=a.eval) hv w with⟨v,w2,LA⟩ | ⟨x,w2,LA⟩
      ·rw [LA]at h1
       obtain⟨_,h3,h4⟩:=h1;have hd':(bare o).dst=some d:=hd;rw [<- h3,hd',hd];simp [Act.put,hds]
      ·rw [LA]at h1
       cases x <;>simp only [Oper.upon]at h1
       case panic=>exact absurd h1.1 (by simp)
     ·obtain⟨_,_,h3,_⟩:=h2
      exact absurd h3 (by simp)
    rw [ha];exact lM hQ hs rest fuel _ _ _ (by omega) Ma hS hk
  ·refine wpAnyH_take (v:=undef) ho hs hf hr (fun c a w h=>(hQ _ _ _ h).elim) (.inr ⟨by rw [kY];exact hg,rfl⟩) hS ?_
   exact lM hQ hs rest fuel _ _ _ (by omega) Ma hS hk
 | Ord.cons i false rest,fuel+1,listed,a,w,hl,Ly,hS,h=>by
  simp only [qw,bz,du]at Ly;obtain⟨hr,Ma⟩:=Ly;simp only [Ord.depth]at hl;obtain⟨o,ho,h⟩:=h;rw [nO,cm]at ho;refine wpAnyH_all hr (by simp) fun j hj=>?_;obtain rfl:j=i:=by simpa using hj
  unfold wpOp;simp only [ho];rw [kY];rcases h with⟨hg,hw⟩ | ⟨hg,hk⟩
  ·rw [aJ hg]
   have MT:∀a' w',nK Q S (kW P ops.toList Q S rest) .normal a' w' ->S w'/\wpAnyH P .any ops Q S fuel (listed.setIfInBounds j true) a' w':=
    fun a' w' h=>⟨h.1,lM hQ hs rest fuel _ _ _ (by omega) Ma h.1 h.2⟩
   have O2:LetsOut (nK Q S (kW P ops.toList Q S rest)) ->LetsOut Q:=fun⟨a,w,h⟩=>⟨a,w,h⟩;rcases lW hw with h1 | ⟨h1,h2⟩
   ·left
    unfold Oper.wp at h1⊢;rw [iF]at h1;generalize(execOp a.eval o).run P w=r at*;cases r with
    | ok n w'=>
     cases n <;>simp only [Oper.upon]at h1⊢
     case value=>exact MT _ _ h1
     case skip=>exact MT _ _ h1
     case defer=>exact MT _ _ h1
     case enter=>
      refine bU h1 fun e w'' he=>?_;cases e with
      | returned v=>exact MT _ _ he
      | panicked c=>exact he.elim
      | outgrown=>exact O2 he
     case row=>exact Rows.mono h1 fun v w'' he=>MT _ _ he
    | halt x w'=>
     cases x <;>simp only [Oper.upon]at h1⊢
     case panic=>exact h1.elim
   ·exact .inr ⟨h1,O2 h2⟩
  ·rw [aC (by rw [hg];simp)]
   exact⟨hS,lM hQ hs rest fuel _ _ _ (by omega) Ma hS hk⟩
 | .fork i j ri rj,0,_,_,_,hl,_,_,_=>by simp [Ord.depth]at hl
 | .fork i j ri rj,fuel+1,listed,a,w,hl,Ly,hS,h=>by
  simp only [qw,bz,du]at Ly;obtain⟨⟨hr,hok1⟩,hok2⟩:=Ly;simp only [Ord.depth]at hl;refine wpAnyH_all hr (by simp) fun k hk=>?_;rcases(by simpa using hk:k=i\/k=j)with rfl | rfl
  ·exact kM hS (fun a w hS h=>lM hQ hs ri fuel _ a w (by omega) hok1 hS h) h.1
  ·exact kM hS (fun a w hS h=>lM hQ hs rj fuel _ a w (by omega) hok2 hS h) h.2
theorem lY {P:Program} {ops:List Oper} {Q:Exit ->Act ->World ->Prop} {id:Nat} {a:Act} {w:World} (S:World ->Prop) (l:Ord) (hm:P.follows .mixedOrders=true)
  (Ly:(qw ops.toArray l (Array.replicate ops.length false)&&Region.noSelect ops.toArray&&decide (l.depth <=ops.length))=true) (hS:S w.drew)
  (h:kW P ops (NoPanic Q) S l a w.drew):(Code.region id ops.toArray true).wp P Q a w:=by
 simp only [bz,db]at Ly;obtain⟨⟨Ly,hn⟩,hl⟩:=Ly;refine dH (wp_region_held (S:=S) hm ?_);refine lM (S:=S) (fun c a w h=>h) hn l _ _ a _ ?_ ?_ hS ?_
 ·simpa using hl
 ·simpa using Ly
 ·simpa using h
section
variable {P:Program} {ops:List Oper} {Q:Exit ->Act ->World ->Prop} {S:World ->Prop} {i:Nat} {rest:Ord} {a:Act} {w:World} {d:Tmp} {op:Op} {t:TypeId} {p:String} {af:Array Edge} {g:Option (Nat × Bool)}
theorem iI (hi:nth ops i=some ⟨some d,op,t,p,af,g⟩) (hg:ko ops g a=true) (hd:Nat.ble (d+1) a.tmps.size=true) {a':Act} (hp:∀w',S w' ->wpList P #[] (Cv a' w') [⟨some d,op,t,p,#[],none⟩] a w')
  (h:kW P ops Q S rest a' w):kW P ops Q S (.cons i true rest) a w:=
 ⟨_,hi, .inl ⟨hg,d,rfl,Nat.le_of_ble_eq_true hd,a',hp,h⟩⟩
theorem fX {dst:Option Tmp} (hi:nth ops i=some ⟨dst,op,t,p,af,g⟩) (hg:ko ops g a=true) (h:wpList P #[] (nK Q S (kW P ops Q S rest)) [⟨dst,op,t,p,#[],none⟩] a w):kW P ops Q S (.cons i false rest) a w:=
 ⟨_,hi, .inl ⟨hg,h⟩⟩
theorem mG (h:Q .normal a w):kW P ops Q S .nil a w:=h
theorem pG {i j:Nat} {ri rj:Ord} {oi oj:Oper} (hi:nth ops i=some oi) (hj:nth ops j=some oj) (gi:ko ops oi.guard a=true) (gj:ko ops oj.guard a=true)
  (h1:wpList P #[] (nK Q S (kW P ops Q S ri)) [⟨oi.dst,oi.op,oi.type,oi.pos,#[],none⟩] a w) (h2:wpList P #[] (nK Q S (kW P ops Q S rj)) [⟨oj.dst,oj.op,oj.type,oj.pos,#[],none⟩] a w):
  kW P ops Q S (.fork i j ri rj) a w:=
 ⟨⟨_,hi, .inl ⟨gi,h1⟩⟩,⟨_,hj, .inl ⟨gj,h2⟩⟩⟩
end
end
end Go.Proofs.YthbjdhjppbcneaaGreatDoor
