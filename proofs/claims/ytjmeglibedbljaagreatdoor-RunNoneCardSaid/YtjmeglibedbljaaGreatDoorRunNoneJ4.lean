import Derived.Test.YtjmeglibedbljaaGreatDoorRunNoneJ3
namespace Go.Proofs.YtjmeglibedbljaaGreatDoor
set_option maxRecDepth 100000
set_option maxHeartbeats 20000000
open Go.RowKit Tryz
open Lib renaming hid->V
set_option linter.all false
def Gh (l m:List UInt8) (w:World) (e:Ending) (w':World):Prop:=e= .returned (.bool (l==m))/\w=w'
theorem sH (a b:Value) (l m:List UInt8) (w:World) (ha:eG w a l) (hb:eG w b m):
  Calls prog 124 #[a,b] w (Gh l m w):=by
 have h1:=pO ha;have h2:=pO hb;clear ha hb;go_enter func124,ntmps124;go_wp2;go_ret;exact⟨by rw [kU,kU];rfl,rfl⟩
def vy (B:Nat) (w:World) (v u:Value):Prop:=∀a n cap,u= .slice (some a) n cap ->B <=a.block/\a.block < w.heap.size/\¬ ez v a.block
def gP (w:World) (B:Nat) (v:Value) (l:List eR):Prop:=
 ∃us:List (Value × Value),us.length=l.length/\dS 124 5 lT w B v (l.zip us)/\(∀f∈l,f.ok)/\
  ∀(i:Nat) (f:eR) (u:Value × Value),l[i]?=some f ->us[i]?=some u ->(ee 2 fD w u.1 f.locals/\vy B w v u.1)/\ee 2 kg w u.2 f.labels/\vy B w v u.2
theorem gP.nil (w:World) (B:Nat):gP w B (.slice none 0 0) []:=⟨[],rfl,dS.nil _ _,by simp,by simp⟩
theorem gP.jN {w:World} {B:Nat} {v:Value} {l:List eR} (h:gP w B v l):fS w v l:=by
 obtain⟨us,h1,h2,h3,h4⟩:=h;exact⟨us,h1,h2.fH iq,fun i f u hf hu=>⟨(h4 i f u hf hu).1.1,(h4 i f u hf hu).2.1⟩,h3⟩
theorem gP.lt {w:World} {B:Nat} {v:Value} {l:List eR} (h:gP w B v l) {i:Nat} (hi:ez v i):B <=i/\i < w.heap.size:=by
 obtain⟨us,h1,h2,h3,h4⟩:=h;exact ey h2 hi
theorem gP.keeps {w w':World} {B:Nat} {v:Value} {l:List eR} {T:Nat ->Prop} (h:gP w B v l) (hk:dU T w w') (hT:∀i,T i ->i < B):gP w' B v l:=by
 obtain⟨us,h1,h2,h3,h4⟩:=h;refine⟨us,h1,h2.keeps hk (fun i hi hj=>by have:=(ey h2 hi).1;have:=hT i hj;omega),h3,fun i f u hf hu=>?_⟩;have conv:∀x,vy B w v x ->vy B w' v x:=fun x hx a n cap he=>by
  obtain⟨g1,g2,g3⟩:=hx a n cap he;exact⟨g1,bo g2 hk.size,g3⟩
 have away:∀x,vy B w v x ->∀a n cap,x= .slice (some a) n cap ->¬ T a.block:=fun x hx a n cap he hj=>by
  have:=(hx a n cap he).1;have:=hT _ hj;omega
 obtain⟨⟨g1,g2⟩,g3,g4⟩:=h4 i f u hf hu;exact⟨⟨g1.keeps hk (away _ g2),conv _ g2⟩,g3.keeps hk (away _ g4),conv _ g4⟩
theorem gP.app {w w':World} {B:Nat} {v v':Value} {l:List eR} {us:List (Value × Value)} (h1:us.length=l.length) (h3:∀f∈l,f.ok)
  (h4:∀(i:Nat) (f:eR) (u:Value × Value),l[i]?=some f ->us[i]?=some u ->(ee 2 fD w u.1 f.locals/\vy B w v u.1)/\ee 2 kg w u.2 f.labels/\vy B w v u.2)
  (hk:dU (ez v) w w') (hs:eB w v v') {f:eR} {u:Value × Value} (hf:f.ok)
  (hu:(ee 2 fD w u.1 f.locals/\vy B w v u.1)/\ee 2 kg w u.2 f.labels/\vy B w v u.2)
  (ho:dS 124 5 lT w' B v' (l.zip us++[(f,u)])):gP w' B v' (l++[f]):=by
 have key:∀a:Addr,a.block < w.heap.size ->¬ ez v a.block ->¬ ez v' a.block:=fun a h1 h2 h3=>(hs _ h3).elim h2 (fun g=>by omega);have conv:∀x,vy B w v x ->vy B w' v' x:=fun x hx a n cap he=>by
  obtain⟨g1,g2,g3⟩:=hx a n cap he;exact⟨g1,bo g2 hk.size,key a g2 g3⟩
 have away:∀x,vy B w v x ->∀a n cap,x= .slice (some a) n cap ->¬ ez v a.block:=fun x hx a n cap he=>(hx a n cap he).2.2;refine⟨us++[u],by simp [h1],?_,?_,?_⟩
 ·rw [di h1.symm]
  exact ho
 ·intro d hd
  rcases bT.1 hd with h | h
  ·exact h3 d h
  ·obtain rfl:=aV.1 h
   exact hf
 ·intro i d x hd hx
  have all:∀(d:eR) (x:Value × Value),((ee 2 fD w x.1 d.locals/\vy B w v x.1)/\ee 2 kg w x.2 d.labels/\vy B w v x.2) ->
    (ee 2 fD w' x.1 d.locals/\vy B w' v' x.1)/\ee 2 kg w' x.2 d.labels/\vy B w' v' x.2:=by
   rintro d x ⟨⟨g1,g2⟩,g3,g4⟩;exact⟨⟨g1.keeps hk (away _ g2),conv _ g2⟩,g3.keeps hk (away _ g4),conv _ g4⟩
  rcases bx i l.length with h | h
  ·rw [bE h]at hd
   rw [bE (by omega)]at hx;exact all d x (h4 i d x hd hx)
  ·rw [bA h]at hd
   rw [bA (by omega),h1]at hx;have hi:i - l.length=0:=by
    rcases aZ (i - l.length)with g | g
    ·exact g
    ·rw [dj (by simp only [aB];omega)]at hd
     cases hd
   rw [hi]at hd hx;simp at hd hx;subst hd hx;exact all f u hu
theorem uz:(prog.info? 144).map (fun i=>(i.zero,i.size,i.bytes))=some (some (.agg #[.int .i64 0, .int .i64 0]),2,16):=by kernel_rfl
theorem mA:(prog.info? 124).map (fun i=>(i.zero,i.size,i.bytes))=some (some (.agg #[.int .i64 0, .int .i64 0, .slice none 0 0, .int .i64 0, .slice none 0 0]),5,72):=by kernel_rfl
theorem eD.vq {w:World} {X:Nat} {u v:Value} {n:Int} {t:TypeId} (h:eD w X #[u,v, .int .i64 n] t):
  (loadVar 60 ⟨X,0,none⟩).run prog w= .ok (.agg #[u,v, .int .i64 n]) w:=by
 have hs:(prog.underlying 60).map (fun d=>match d with | .struct _ | .array _ _=>true | _=>false)=some true:=by kernel_rfl
 obtain⟨d,h1,h2⟩:=bu.1 hs;exact bU w X t 60 _ _ d h h1 (by cases d <;>first | rfl | (exfalso;simp at h2)) (by kernel_rfl)
def Iv (l:List UInt8) (w:World) (e:Ending) (w':World):Prop:=
 Below w.heap.size w w'/\∃uv uf s err,e= .returned (.tuple #[.agg #[uv,uf, .int .i64 s.asks], .int .i64 err])/\jl w' uv uf s/\
  ((err=0/\s.may/\iG s=l)\/(err=11/\s=⟨[],[],0⟩/\¬ ∃s:fy,s.may/\s.ok/\iG s=l))
def J2 (B0 Rb F:Nat) (cs:Value ->Array Value) (k0:Nat) (st0:Option (List UInt8)) (w5 w':World) (v:Value) (acc:List kN) (n:Nat) (st:Option (List UInt8)):Prop:=
 ny k0 st0=(acc++(ny n st).1,(ny n st).2)/\dS 144 2 kg w' (F+1) v acc/\(∀x∈acc,x.ok)/\acc.length+oF st <=oF st0/\Rd B0 w' Rb st/\
  eD w' F (cs v) 124/\dU (fun k=>k=Rb) w5 w'/\n < 4611686018427387904
def Ks (l:List UInt8) (dX:List eX) (asks:Int) (uv:Value) (C Rb Sb:Nat) (w w':World) (v:Value) (acc:List eR) (n:Nat) (st:Option (List UInt8)):Prop:=
 qD (some l)=(⟨dX,acc++(jJ n st).1,asks⟩,(jJ n st).2)/\gP w' (Sb+1) v acc/\acc.length+oF st <=l.length+1/\Rd w.heap.size w' Rb st/\
  eD w' C #[.slice none 0 0, .slice none 0 0, .int .i64 0] 60/\eD w' Sb #[uv,v, .int .i64 asks] 60/\ee 2 fD w' uv dX/\Below w.heap.size w w'/\n < 4611686018427387904
theorem eD.Dm {w:World} {X:Nat} {t:TypeId} {x0 x1 x2:Value} (h:eD w X #[x0,x1,x2] t) (y0 y1 y2:Value):
  eD (((w.setCell ⟨X,0,none⟩ y0).setCell ⟨X,1,none⟩ y1).setCell ⟨X,2,none⟩ y2) X #[y0,y1,y2] t:=by
 have:=((h.set 0 y0).set 1 y1).set 2 y2;simpa using this
theorem iQ (w:World) (X i:Nat) (v:Value):dU (fun k=>k=X) w (w.setCell ⟨X,i,none⟩ v):=⟨rfl,rfl,rfl,by simp,fun k _ hk=>cH w ⟨X,i,none⟩ v k hk⟩
theorem wW (w:World) (X:Nat) (y0 y1 y2:Value):dU (fun k=>k=X) w (((w.setCell ⟨X,0,none⟩ y0).setCell ⟨X,1,none⟩ y1).setCell ⟨X,2,none⟩ y2):=
 ((iQ w X 0 y0).trans (iQ _ X 1 y1) (fun _ h=> .inl h)).trans (iQ _ X 2 y2) (fun _ h=> .inl h)
theorem GU (st:Option (List UInt8)):oF (fB st).2+1 <=max 1 (oF st):=by
 cases st with
 | none=>simp [fB,oF]
 | some l=>have:=sZ l;omega
theorem qZ (b:Value) (l:List UInt8) (w:World) (hb:eG w b l) (OV:l.length <=400000):Calls prog 137 #[b] w (Iv l w):=by
 obtain⟨a,cap,rfl,L7,NG,LM⟩:=id hb;have HB:=V hb;have hB0:l≠[] ->∀ad,a=some ad ->ad.block < w.heap.size:=by
  intro MO ad ha;obtain⟨x,xs,hxs⟩:=List.exists_cons_of_ne_nil MO;obtain⟨g,off,g1,g2⟩:=LM 0 x (by rw [hxs];rfl);rw [ha]at g1;injection g1 with g1;rw [g1];exact aO w _ g2
 unfold maxLen at NG;clear LM;have hz:eD (w.alloc (.cells #[.slice none 0 0, .slice none 0 0, .int .i64 0] 60)) w.heap.size #[.slice none 0 0, .slice none 0 0, .int .i64 0] 60:=eD.new w _ _;have LG:Below w.heap.size w (w.alloc (.cells #[.slice none 0 0, .slice none 0 0, .int .i64 0] 60)):=(an _ _).alloc (ag _) _;have hi1:eG (w.alloc (.cells #[.slice none 0 0, .slice none 0 0, .int .i64 0] 60)) (.slice a l.length cap) l:=hb.below LG;have QQ:(w.alloc (.cells #[.slice none 0 0, .slice none 0 0, .int .i64 0] 60)).heap.size=w.heap.size+1:=aC _ _;clear hb;go_enter func137,ntmps137;go_wp2_with fail;rw [show w.heap.size+1=(w.alloc (.cells #[.slice none 0 0, .slice none 0 0, .int .i64 0] 60)).heap.size from QQ.symm];generalize w.alloc (.cells #[.slice none 0 0, .slice none 0 0, .int .i64 0] 60)=w0 at hz LG hi1 QQ⊢;have hC0:w.heap.size < w0.heap.size:=by omega
 have hC0':w0.heap.size < w.heap.size+2:=by omega
 clear QQ;have Nm:Rd w.heap.size (w0.alloc (.cells #[.slice a l.length cap, .bool false] 302)) w0.heap.size (some l):=
  ⟨a,l.length,cap,eD.new w0 _ _,l,hB0,hi1.below ((an _ _).alloc (ag _) _),fun l' h=>by injection h with h;exact h.symm⟩
 have HRD0:=V Nm;clear Nm hB0 hi1;obtain⟨dX,s1,e1⟩:∃x t,iN (some l)=(x,t):=⟨_,_,rfl⟩;obtain⟨xa,s2,e2⟩:∃x t,fB s1=(x,t):=⟨_,_,rfl⟩;obtain⟨n0,s3,e3⟩:∃x t,fB s2=(x,t):=⟨_,_,rfl⟩;have ba:=lp s1;have bn:=lp s2;have ta:=mB s1;have tn:=mB s2;rw [e2]at ba ta;rw [e3]at bn tn;simp only at ba bn ta tn;have NM:=hz.alloc (.cells #[.slice a l.length cap, .bool false] 302);have LR:=LG.alloc (by omega) (.cells #[.slice a l.length cap, .bool false] 302);have hszr:(w0.alloc (.cells #[.slice a l.length cap, .bool false] 302)).heap.size=w0.heap.size+1:=aC _ _;refine(wu w.heap.size w0.heap.size (some l) _ HRD0.out (by simp only [oF];omega) (by rw [hszr];omega)).mono ?_;rintro x w1 ⟨u,rfl,hou,hvo,N6,PO,Oa⟩;rw [hszr]at hou;rw [e1]at hou hvo N6 PO;rw [show oF (some l)=l.length+1 from rfl]at N6;simp only at hou hvo N6 PO;have hsr:=Oa.size;rw [hszr]at hsr;have hui:=hou.fH fI;have hub:=hou.block;obtain⟨au,LB,rfl,-,hcu,-⟩:=id hui;unfold maxLen at hcu;have HVO:=V hvo;have hC1:=NM.keeps Oa (by omega);have Lw:=LR.trans (Oa.below (by rw [hszr];omega) (fun i h=>by omega));clear hou hvo Oa NM LR hszr hz LG;go_wp2_with fail;refine(jW w.heap.size w0.heap.size s1 w1 PO).mono ?_;rintro x w2 ⟨rfl,Of,LH⟩;rw [e2]at Of⊢;have OB:=LH.size;have LZ:=Lw.trans (LH.below (by omega) (fun i h=>by omega));have OJ:=hC1.keeps LH (by omega);have Nz:=hui.keeps LH (fun a n cp he hj=>by have:=(hub a n cp he).1;omega);have HUB:=V (show∀a n cp,Value.slice au dX.length LB= .slice (some a) n cp ->w0.heap.size < a.block/\a.block < w2.heap.size from fun a n cp he=>by have:=hub a n cp he;omega);clear PO LH hC1 hui hub Lw;go_wp2_with fail;have hia:∃asks:Int,(xa:Int) - 1=asks:=⟨_,rfl⟩;obtain⟨asks,NH⟩:=hia;have ha1: -1 <=asks:=by omega
 have ha2:asks < 4611686018427387904:=by omega
 rw [NH];have HAS:=V NH;clear NH;have hS0:=eD.new w2 #[.slice au dX.length LB, .slice none 0 0, .int .i64 asks] 60;have hC3:=OJ.alloc (.cells #[.slice au dX.length LB, .slice none 0 0, .int .i64 asks] 60);have MN:=LZ.alloc (by omega) (.cells #[.slice au dX.length LB, .slice none 0 0, .int .i64 asks] 60);have Ng:=(an w2.heap.size w2).alloc (ag _) (.cells #[.slice au dX.length LB, .slice none 0 0, .int .i64 asks] 60);have QN:=Of.below Ng;have hu3:=Nz.below Ng;have hszs:(w2.alloc (.cells #[.slice au dX.length LB, .slice none 0 0, .int .i64 asks] 60)).heap.size=w2.heap.size+1:=aC _ _;generalize hSb:w2.heap.size=Sb at hS0 hszs HUB OB LZ⊢;generalize w2.alloc (.cells #[.slice au dX.length LB, .slice none 0 0, .int .i64 asks] 60)=w3 at hS0 hC3 MN QN hu3 hszs⊢;clear Ng Of Nz OJ LZ hSb;refine(jW w.heap.size w0.heap.size s2 w3 QN).mono ?_;rintro x w4 ⟨rfl,hr4,OQ⟩;rw [e3]at hr4⊢;have hS4:=hS0.keeps OQ (by omega);have hC4:=hC3.keeps OQ (by omega);have Mh:=MN.trans (OQ.below (by omega) (fun i h=>by omega));have hu4:=hu3.keeps OQ (fun a n cp he hj=>by have:=(HUB.out a n cp he).1;omega);have hSlt:=hS4.lt;have hs0:w0.heap.size+1 <=Sb:=by omega
 clear OQ hS0 hC3 MN QN hu3 hszs;go_wp2_with fail;refine eC (fun a' w'=>∃(v:Value) (acc:List eR) (n:Nat) (s:Option (List UInt8)),a'=fr (.slice a l.length cap::gs a' 1 1 (.pointer (some ⟨w.heap.size,0,none⟩):: .int .i64 0:: .pointer (some ⟨w0.heap.size,0,none⟩):: .pointer (some ⟨Sb,0,none⟩):: .int .i64 n::gs a' 7 81 []))/\Ks l dX asks (.slice au dX.length LB) w.heap.size w0.heap.size Sb w w' v acc n s) (fun a' _=>(intOf (a'.tmps.getD 6 undef)).toNat) ?_ ?_
 ·refine⟨_,[],n0,s3,rfl,⟨?_,gP.nil _ _,?_,hr4,hC4,hS4,hu4,Mh,bn⟩⟩
  ·rw [qD,e1,e2,e3]
   simp only [cg,HAS.out]
  ·simp only [aL]
   omega
 ·clear hr4 hC4 hS4 hu4 Mh bn ba ta tn N6 hsr OB hSlt e1 e2 e3 HAS
  rintro R a' w1 ⟨v,acc,n,s,Lv,hJ⟩ HR;dsimp only [fr,gs]at Lv;generalize slot a'=f at Lv;subst Lv;obtain⟨hv,P8,hlen,Nm,hC,hS,hu,hb,hn⟩:=hJ;obtain⟨av,LU,rfl,_,M6⟩:=P8.jN.slice;have Ms:=V Nm;have PS:=V P8;obtain⟨ar,nr,PQ,LN,_⟩:=Nm;have c1:w1.cell? ⟨w0.heap.size,1,none⟩=some (.bool s.isNone):=LN.cell 1;have Oc:=LN.lt;have hSlt:=hS.lt;clear LN P8;rcases aZ n with OW | OW
  ·subst OW
   rw [jJ,bO]at hv;cases s with
   | none=>
    skip
    have HC:=V (show qD (some l)=(⟨dX,acc,asks⟩,(none:Option (List UInt8)))from hv);have key:∀y:fy,y.may ->y.ok ->iG y=l ->y=⟨dX,acc,asks⟩/\(none:Option (List UInt8))=some []:=by
     intro y h1 h2 h3;have h4:=mH y h1 h2;rw [h3,HC.out]at h4;injection h4 with h4 h5;exact⟨h4.symm,h5⟩
    have KEY:=V key;have LS:jl w1 (.slice au dX.length LB) (.slice av acc.length LU) ⟨dX,acc,asks⟩:=⟨hu,PS.out.jN,⟨by show(-9223372036854775808:Int) <=asks;omega,by show asks <=9223372036854775807;omega⟩,HVO.out,by obtain⟨_,_,_,h,_⟩:=PS.out;exact h⟩;have Lz:=V LS;obtain⟨s0,s1,s2⟩:=hS.three;clear key hv hlen LS HC;go_wp2_with fail;refine(me _ _ ⟨dX,acc,asks⟩ w1 Lz.out).mono ?_;rintro x w2 ⟨c,rfl,Lw,hc⟩;obtain⟨ar,nr,PQ,Qn,-⟩:=Ms.out.below Lw;have d1:w2.cell? ⟨w0.heap.size,1,none⟩=some (.bool true):=Qn.cell 1;have OJ:=hC.below Lw hC.lt;obtain⟨c0',c1',c2'⟩:=OJ.three;have z0:=OJ.free 0;have z1:=OJ.free 1;have z2:=OJ.free 2;have QS:=hS.below Lw hS.lt;obtain⟨s0',s1',s2'⟩:=QS.three;have Mf:=HB.out.below ((hb.trans (Lw.mono hb.size)).mono (ag _));have HBL:=V Mf;have HSZ2:=V Lw.size;have HOF2:=V (PS.out.keeps (T:=fun _=>False) (dU.dW Lw) (fun _ h=>h.elim));have PE:=V (hu.below Lw);replace hb:=hb.trans (Lw.mono hb.size);clear Qn Mf Lw c1 hC s0 s1 s2 hu hS;clear hc;go_wp2_with fail;have hx:=OJ.Dm (.slice none 0 0) (.slice none 0 0) (.int .i64 0);refine aF (eY rfl _ _ rfl hx.vq) rfl ?_;refine⟨((hb.setCell (ag _) _).setCell (ag _) _).setCell (ag _) _,_,_,⟨[],[],0⟩,_,rfl,⟨ee.nil _,fS.nil _,⟨by show(-9223372036854775808:Int) <=0;omega,by show(0:Int) <=9223372036854775807;omega⟩,by simp,by simp⟩, .inr ⟨rfl,rfl,?_⟩⟩;rintro⟨s,g1,g2,g3⟩;have:=(KEY.out s g1 g2 g3).2;cases this
   | some s=>
    skip
    have HC:=V (show qD (some l)=(⟨dX,acc,asks⟩,some s)from hv);have key:∀y:fy,y.may ->y.ok ->iG y=l ->y=⟨dX,acc,asks⟩/\some s=some []:=by
     intro y h1 h2 h3;have h4:=mH y h1 h2;rw [h3,HC.out]at h4;injection h4 with h4 h5;exact⟨h4.symm,h5⟩
    have KEY:=V key;have LS:jl w1 (.slice au dX.length LB) (.slice av acc.length LU) ⟨dX,acc,asks⟩:=⟨hu,PS.out.jN,⟨by show(-9223372036854775808:Int) <=asks;omega,by show asks <=9223372036854775807;omega⟩,HVO.out,by obtain⟨_,_,_,h,_⟩:=PS.out;exact h⟩;have Lz:=V LS;obtain⟨s0,s1,s2⟩:=hS.three;clear key hv hlen LS HC;go_wp2_with fail;refine(me _ _ ⟨dX,acc,asks⟩ w1 Lz.out).mono ?_;rintro x w2 ⟨c,rfl,Lw,hc⟩;obtain⟨ar,nr,PQ,Qn,-⟩:=Ms.out.below Lw;have d1:w2.cell? ⟨w0.heap.size,1,none⟩=some (.bool false):=Qn.cell 1;have OJ:=hC.below Lw hC.lt;obtain⟨c0',c1',c2'⟩:=OJ.three;have z0:=OJ.free 0;have z1:=OJ.free 1;have z2:=OJ.free 2;have QS:=hS.below Lw hS.lt;obtain⟨s0',s1',s2'⟩:=QS.three;have Mf:=HB.out.below ((hb.trans (Lw.mono hb.size)).mono (ag _));have HBL:=V Mf;have HSZ2:=V Lw.size;have HOF2:=V (PS.out.keeps (T:=fun _=>False) (dU.dW Lw) (fun _ h=>h.elim));have PE:=V (hu.below Lw);replace hb:=hb.trans (Lw.mono hb.size);clear Qn Mf Lw c1 hC s0 s1 s2 hu hS;rcases hc with⟨hm,hoc⟩ | ⟨hm,rfl⟩
    ·have HM:=V hm
     obtain⟨g,OD,rfl,Pm,NC,hg3,hg4,_,_⟩:=hoc.open (xt _);have hoi:=hoc.gl;have HOB:=V hoi;clear hoi hoc hm;have e1:=bK (P:=prog) w2 104 5 (some ⟨g,0,none⟩) (iG ⟨dX,acc,asks⟩).length OD 0 0 (by kernel_rfl);rw [df]at e1;go_wp2_with fail;refine(sH _ _ (iG ⟨dX,acc,asks⟩) l w2 HOB.out HBL.out).mono ?_;rintro x w3 ⟨rfl,rfl⟩;cases hq:iG ⟨dX,acc,asks⟩==l
     ·go_wp2_with fail
      have hx:=OJ.Dm (.slice none 0 0) (.slice none 0 0) (.int .i64 0);refine aF (eY rfl _ _ rfl hx.vq) rfl ?_;refine⟨((hb.setCell (ag _) _).setCell (ag _) _).setCell (ag _) _,_,_,⟨[],[],0⟩,_,rfl,⟨ee.nil _,fS.nil _,⟨by show(-9223372036854775808:Int) <=0;omega,by show(0:Int) <=9223372036854775807;omega⟩,by simp,by simp⟩, .inr ⟨rfl,rfl,?_⟩⟩;rintro⟨s,g1,g2,g3⟩;have h3:=(KEY.out s g1 g2 g3).1;rw [h3]at g3;simp [g3]at hq
     ·go_wp2_with fail
      have hx:=OJ.Dm (.slice au dX.length LB) (.slice av acc.length LU) (.int .i64 asks);have MZ:=wW w2 w.heap.size (.slice au dX.length LB) (.slice av acc.length LU) (.int .i64 asks);refine aF (eY rfl _ _ rfl hx.vq) rfl ?_;refine⟨((hb.setCell (ag _) _).setCell (ag _) _).setCell (ag _) _,_,_,⟨dX,acc,asks⟩,_,rfl,⟨PE.out.keeps MZ (fun a n cp he hj=>by have:=(HUB.out a n cp he).1;omega),(HOF2.out.keeps MZ (fun i h=>by omega)).jN,Lz.out.2.2⟩, .inl ⟨rfl,HM.out,by simpa using hq⟩⟩
    ·have HM:=V hm
     clear hm;have e1:=bK (P:=prog) w2 104 5 none 0 0 0 0 (by kernel_rfl);rw [dg]at e1;go_wp2_with fail;have hx:=OJ.Dm (.slice none 0 0) (.slice none 0 0) (.int .i64 0);refine aF (eY rfl _ _ rfl hx.vq) rfl ?_;refine⟨((hb.setCell (ag _) _).setCell (ag _) _).setCell (ag _) _,_,_,⟨[],[],0⟩,_,rfl,⟨ee.nil _,fS.nil _,⟨by show(-9223372036854775808:Int) <=0;omega,by show(0:Int) <=9223372036854775807;omega⟩,by simp,by simp⟩, .inr ⟨rfl,rfl,?_⟩⟩;rintro⟨s,g1,g2,g3⟩;have h3:=(KEY.out s g1 g2 g3).1;rw [h3]at g1;exact HM.out g1
  have f0:decide ((0:Int) < (n:Int))=true:=ay (by omega);cases s with
  | none=>
   have c1:w1.cell? ⟨w0.heap.size,1,none⟩=some (.bool true):=c1;rw [xT,bO]at hv;have HC:=V (show qD (some l)=(⟨dX,acc,asks⟩,(none:Option (List UInt8)))from hv);have key:∀y:fy,y.may ->y.ok ->iG y=l ->y=⟨dX,acc,asks⟩/\(none:Option (List UInt8))=some []:=by
    intro y h1 h2 h3;have h4:=mH y h1 h2;rw [h3,HC.out]at h4;injection h4 with h4 h5;exact⟨h4.symm,h5⟩
   have KEY:=V key;have LS:jl w1 (.slice au dX.length LB) (.slice av acc.length LU) ⟨dX,acc,asks⟩:=⟨hu,PS.out.jN,⟨by show(-9223372036854775808:Int) <=asks;omega,by show asks <=9223372036854775807;omega⟩,HVO.out,by obtain⟨_,_,_,h,_⟩:=PS.out;exact h⟩;have Lz:=V LS;obtain⟨s0,s1,s2⟩:=hS.three;clear key hv hlen LS HC;go_wp2_with fail;refine(me _ _ ⟨dX,acc,asks⟩ w1 Lz.out).mono ?_;rintro x w2 ⟨c,rfl,Lw,hc⟩;obtain⟨ar,nr,PQ,Qn,-⟩:=Ms.out.below Lw;have d1:w2.cell? ⟨w0.heap.size,1,none⟩=some (.bool true):=Qn.cell 1;have OJ:=hC.below Lw hC.lt;obtain⟨c0',c1',c2'⟩:=OJ.three;have z0:=OJ.free 0;have z1:=OJ.free 1;have z2:=OJ.free 2;have QS:=hS.below Lw hS.lt;obtain⟨s0',s1',s2'⟩:=QS.three;have Mf:=HB.out.below ((hb.trans (Lw.mono hb.size)).mono (ag _));have HBL:=V Mf;have HSZ2:=V Lw.size;have HOF2:=V (PS.out.keeps (T:=fun _=>False) (dU.dW Lw) (fun _ h=>h.elim));have PE:=V (hu.below Lw);replace hb:=hb.trans (Lw.mono hb.size);clear Qn Mf Lw c1 hC s0 s1 s2 hu hS;clear hc;go_wp2_with fail;have hx:=OJ.Dm (.slice none 0 0) (.slice none 0 0) (.int .i64 0);refine aF (eY rfl _ _ rfl hx.vq) rfl ?_;refine⟨((hb.setCell (ag _) _).setCell (ag _) _).setCell (ag _) _,_,_,⟨[],[],0⟩,_,rfl,⟨ee.nil _,fS.nil _,⟨by show(-9223372036854775808:Int) <=0;omega,by show(0:Int) <=9223372036854775807;omega⟩,by simp,by simp⟩, .inr ⟨rfl,rfl,?_⟩⟩;rintro⟨s,g1,g2,g3⟩;have:=(KEY.out s g1 g2 g3).2;cases this
  | some s=>
   have c1:w1.cell? ⟨w0.heap.size,1,none⟩=some (.bool false):=c1;obtain⟨n',rfl⟩:∃n',n=n'+1:=⟨n - 1,by omega⟩;have HV:=V hv;obtain⟨M0,r1,e0⟩:∃x t,iN (some s)=(x,t):=⟨_,_,rfl⟩;obtain⟨x0,r2,e1⟩:∃x t,fB r1=(x,t):=⟨_,_,rfl⟩;obtain⟨x1,r3,e2⟩:∃x t,fB r2=(x,t):=⟨_,_,rfl⟩;obtain⟨x2,r4,e3⟩:∃x t,fB r3=(x,t):=⟨_,_,rfl⟩;obtain⟨k0,r5,e4⟩:∃x t,fB r4=(x,t):=⟨_,_,rfl⟩;have b1:=lp r1;have b2:=lp r2;have b3:=lp r3;have b4:=lp r4;have t1:=GU r1;have t2:=mB r2;have t3:=mB r3;have t4:=mB r4;rw [e1]at b1 t1;rw [e2]at b2 t2;rw [e3]at b3 t3;rw [e4]at b4 t4;simp only at b1 b2 b3 b4 t1 t2 t3 t4;have OE:oF (some s)=s.length+1:=rfl;have hacc:acc.length <=400001:=by omega
   have N4:oF (some s) <=500000:=by omega
   have HT:=V (show oF r1 <=oF (some s) ->∀r6,oF r6 <=oF r5 ->acc.length+1+oF r6 <=l.length+1 by intro _ r6 _;omega);have HT5:=V (show oF r1 <=oF (some s) ->oF r5 <=500000 by intro _;omega);clear hv hlen t1 t2 t3 t4 OE;go_wp2_with fail;refine(wu w.heap.size w0.heap.size (some s) w1 Ms.out N4 (by omega)).mono ?_;rintro x w2 ⟨u,rfl,hou,hvo,N6,Of,LH⟩;rw [e0]at hou hvo N6 Of;simp only at hou hvo N6 Of;have OB:=LH.size;have hui:=hou.fH fI;have hub:=hou.block;obtain⟨au',Nh,rfl,-,hcu',-⟩:=id hui;unfold maxLen at hcu';have HLV:=V hvo;have HT:=V (HT.out (by omega));have hT5:=HT5.out (by omega);have HUI:=V hui;have HUR:=V hub;have HR2:=V Of;clear hou hvo N6 Of hui hub HT5 Ms c1;go_wp2_with fail;refine(jW w.heap.size w0.heap.size r1 w2 HR2.out).mono ?_;rintro x w3 ⟨rfl,QN,Mz⟩;rw [e1]at QN⊢;have HR3:=V QN;have OC:=Mz.size;clear QN HR2;go_wp2_with fail;refine(jW w.heap.size w0.heap.size r2 w3 HR3.out).mono ?_;rintro x w4 ⟨rfl,hr4,OQ⟩;rw [e2]at hr4⊢;have HR4:=V hr4;have hsz4:=OQ.size;clear hr4 HR3;go_wp2_with fail;refine(jW w.heap.size w0.heap.size r3 w4 HR4.out).mono ?_;rintro x w5 ⟨rfl,hr5,N7⟩;rw [e3]at hr5⊢;have HR5:=V hr5;have hsz5:=N7.size;have hk25:dU (fun k=>k=w0.heap.size) w2 w5:=(Mz.trans OQ (fun i h=> .inl h)).trans N7 (fun i h=> .inl h);have hk15:dU (fun k=>k=w0.heap.size) w1 w5:=LH.trans hk25 (fun i h=> .inl h);have Pr:=V (HUI.out.keeps hk25 (fun a n cp he hj=>by have:=(HUR.out a n cp he).1;omega));have HLOB:=V (show∀a n cp,Value.slice au' M0.length Nh= .slice (some a) n cp ->w1.heap.size <=a.block/\a.block < w5.heap.size from fun a n cp he=>by have:=HUR.out a n cp he;omega);have hsz15:=hk15.size;clear hr5 HR4 LH Mz OQ N7 hk25 HUI OC hsz4;go_wp2_with fail;have hF0:=eD.new w5 #[.int .i64 x0, .int .i64 x1, .slice au' M0.length Nh, .int .i64 x2, .slice none 0 0] 124;have hr5:=HR5.out.below ((an w5.heap.size w5).alloc (ag _) (.cells #[.int .i64 x0, .int .i64 x1, .slice au' M0.length Nh, .int .i64 x2, .slice none 0 0] 124));have hka:=(dU.refl (fun k=>k=w0.heap.size) w5).alloc (.cells #[.int .i64 x0, .int .i64 x1, .slice au' M0.length Nh, .int .i64 x2, .slice none 0 0] 124);obtain⟨F,hF⟩:∃F,F=w5.heap.size:=⟨_,rfl⟩;rw [<- hF]at hF0⊢;have hFa:w5.heap.size <=F:=by omega
   have hFb:F < w5.heap.size+1:=by omega
   clear hF;refine(jW w.heap.size w0.heap.size r4 _ hr5).mono ?_;rintro x w6 ⟨rfl,hr6,PG⟩;rw [e4]at hr6⊢;have hF6:=hF0.keeps PG (by omega);have On:=hka.trans PG (fun i h=> .inl h);clear PG hka hF0 hr5 HR5;have HRO:=HR;clear HR;go_wp2_with fail;refine eC (fun a' w'=>∃(v:Value) (Mx:List kN) (k:Nat) (r:Option (List UInt8)),a'=fr (.slice a l.length cap::gs a' 1 1 (.pointer (some ⟨w.heap.size,0,none⟩):: .int .i64 0:: .pointer (some ⟨w0.heap.size,0,none⟩):: .pointer (some ⟨Sb,0,none⟩):: .int .i64 ((n'+1:Nat):Int):: .pointer (some ⟨F,0,none⟩):: .int .i64 k::gs a' 9 79 []))/\J2 w.heap.size w0.heap.size F (fun v=>#[.int .i64 x0, .int .i64 x1, .slice au' M0.length Nh, .int .i64 x2,v]) k0 r5 w5 w' v Mx k r) (fun a' _=>(intOf (a'.tmps.getD 8 undef)).toNat) ?_ ?_
   ·exact⟨_,[],k0,r5,rfl,⟨by simp,dS.nil _ _,by simp,by simp,hr6,hF6,On,b4⟩⟩
   ·clear hr6 hF6 On b4
    rintro R a' w7 ⟨v,Mx,k,r,Lv,hJ⟩ HR;dsimp only [fr,gs]at Lv;generalize slot a'=f at Lv;subst Lv;obtain⟨N6,Rt,hokl,hlenl,Nm,hF,On,hk⟩:=hJ;obtain⟨al,Oo,rfl,-,QE,-⟩:=Rt.fH lI;unfold maxLen at QE;obtain⟨ar,nr,PQ,LN,_⟩:=id Nm;have c1:w7.cell? ⟨w0.heap.size,1,none⟩=some (.bool r.isNone):=LN.cell 1;clear LN;rcases aZ k with PC | PC
    ·subst PC
     rw [ny]at N6;have HFR:=V (show nS (some s)=(⟨x0,x1,M0,x2,Mx⟩,r)by
      rw [nS,e0,e1,e2,e3,e4,N6];simp)
     obtain⟨f0',f1',f2',f3',f4'⟩:=hF.sj;have HR6:=V Nm;have Od:=hk15.trans On (fun i h=> .inl h);have hof6:=PS.out.keeps Od (fun i h=>by omega);have hS6:=hS.keeps Od (by omega);have hC6:=hC.keeps Od (by omega);have hu6:=hu.keeps Od (fun a n cp he hj=>by have:=(HUB.out a n cp he).1;omega);have Ny:=hb.trans (Od.below hb.size (fun i h=>by omega));have hl6:=Pr.out.keeps On (fun a n cp he hj=>by have:=(HLOB.out a n cp he).1;omega);have hlb:=Rt.block;have Ru:=Rt.fH lI;have QT:∀i,ez (.slice av acc.length LU) i ->i < w1.heap.size:=fun i hi=>(PS.out.lt hi).2;have QU:∀u:Value,(∀a n cp,u= .slice (some a) n cp ->w1.heap.size <=a.block/\a.block < w7.heap.size) ->vy (Sb+1) w7 (.slice av acc.length LU) u:=fun u hx a n cp he=>by
      obtain⟨g1,g2⟩:=hx a n cp he;exact⟨by omega,g2,fun h=>by have:=QT _ h;omega⟩
     have hsz56:=On.size;have hsz16:=Od.size;have HU6:=V (show(ee 2 fD w7 (Value.slice au' M0.length Nh) M0/\vy (Sb+1) w7 (.slice av acc.length LU) (.slice au' M0.length Nh))/\ee 2 kg w7 (.slice al Mx.length Oo) Mx/\vy (Sb+1) w7 (.slice av acc.length LU) (.slice al Mx.length Oo)from
      ⟨⟨hl6,QU _ (fun a n cp he=>by have:=HLOB.out a n cp he;omega)⟩,Ru,QU _ (fun a n cp he=>by have:=hlb a n cp he;omega)⟩)
     have HOKF:=V (show eR.ok ⟨x0,x1,M0,x2,Mx⟩from⟨⟨by show(-9223372036854775808:Int) <=(x0:Int);omega,by show(x0:Int) <=9223372036854775807;omega⟩,⟨by show(-9223372036854775808:Int) <=(x1:Int);omega,by show(x1:Int) <=9223372036854775807;omega⟩,⟨by show(-9223372036854775808:Int) <=(x2:Int);omega,by show(x2:Int) <=9223372036854775807;omega⟩,HLV.out,hokl⟩);obtain⟨p0,p1,p2⟩:=hS6.three;have HTL:=V (show acc.length+1+oF r <=l.length+1 from HT.out _ (by omega));clear N6 hokl Nm hk15 On hl6 hlb Ru QT QU e0 e1 e2 e3 e4 hC hS hu hb HLOB Pr HUR HT hlenl Rt hF;go_wp2_with (first | (at_builtin;refine Stop.out ?_));change wpList _ _ _ _ _ (World.alloc _ (.cells #[.int .i64 x0, .int .i64 x1, .slice au' M0.length Nh, .int .i64 x2, .slice al Mx.length Oo] 124));obtain⟨us,k1,k2,k3,k4⟩:=hof6;have hzl:(acc.zip us).length <=400002:=by rw [bS];omega
     refine fb w7 rfl _ _ 58 rfl _ 72 (by kernel_rfl) mA rfl (by decide) (by decide) (Sb+1) (.slice av acc.length LU) (acc.zip us) rfl k2 ((⟨x0,x1,M0,x2,Mx⟩,(.slice au' M0.length Nh, .slice al Mx.length Oo)):eR × Value × Value) _ rfl rfl (by intro q hq;simp only [lT,bH,bP,da]at hq;rcases hq with rfl | rfl | rfl | rfl | rfl <;>rfl) rfl (by omega) (by omega) ?_;intro v8 w8 ho8 Nn hs8;have Lu:∀i,ez (.slice av acc.length LU) i ->Sb+1 <=i:=fun i hi=>(ey k2 hi).1;have Oq:=gP.app k1 k3 k4 Nn hs8 HOKF.out HU6.out ho8;generalize hA:acc++[(⟨x0,x1,M0,x2,Mx⟩:eR)]=Oe at Oq;have HA:=V hA;clear hA;have hr8:=HR6.out.keeps Nn (fun h=>by have:=Lu _ h;omega) (fun i hi=>by have:=Lu _ hi;omega);have hC8:=hC6.keeps Nn (fun h=>by have:=Lu _ h;omega);have hS8:=hS6.keeps Nn (fun h=>by have:=Lu _ h;omega);have hu8:=hu6.keeps Nn (fun a n cp he hj=>by have:=(HUB.out a n cp he).2;have:=Lu _ hj;omega);have hb8:=Ny.trans (Nn.below (by omega) (fun i hi=>by have:=Lu _ hi;omega));obtain⟨av8,Qo,rfl,-,-⟩:=Oq.jN.slice;have y1:=hS8.free 1;obtain⟨q0',q1',q2'⟩:=hS8.three;have MZ:=iQ w8 Sb 1 (.slice av8 Oe.length Qo);have hof9:=Oq.keeps MZ (fun i h=>by omega);have hr9:=hr8.keeps MZ (by omega) (fun i h=>by omega);have hC9:=hC8.keeps MZ (by omega);have hS9:=hS8.set 1 (.slice av8 Oe.length Qo);have hu9:=hu8.keeps MZ (fun a n cp he hj=>by have:=(HUB.out a n cp he).2;omega);have hb9:=hb8.trans (MZ.below hb8.size (fun i h=>by omega));have HOF9:=V hof9;have HR9:=V hr9;have HC9:=V hC9;have HS9:=V hS9;have HU9:=V hu9;clear hof9 hr9 hC9 hS9 hu9 MZ Oq hr8 hC8 hS8 hu8 hb8 Lu ho8 Nn hs8 k1 k2 k3 k4 hC6 hS6 hu6 Ny Od p0 p1 p2 f0' f1' f2' f3' f4' c1;go_wp2_with fail;refine HRO.out _ _ ⟨_,Oe,n',r,rfl,⟨?_,HOF9.out,?_,HR9.out,HC9.out,by simpa using HS9.out,HU9.out,hb9,by omega⟩⟩ ?_
     ·rw [HV.out,jJ,HFR.out, <- HA.out]
      simp
     ·rw [<- HA.out,ah]
      exact HTL.out
     ·simp [intOf]
    have f1:decide ((0:Int) < (k:Int))=true:=ay (by omega);cases r with
    | none=>
     have c1:w7.cell? ⟨w0.heap.size,1,none⟩=some (.bool true):=c1;rw [Bx]at N6;have HFR:=V (show nS (some s)=(⟨x0,x1,M0,x2,Mx⟩,(none:Option (List UInt8)))by
      rw [nS,e0,e1,e2,e3,e4,N6];simp)
     obtain⟨f0',f1',f2',f3',f4'⟩:=hF.sj;have HR6:=V Nm;have Od:=hk15.trans On (fun i h=> .inl h);have hof6:=PS.out.keeps Od (fun i h=>by omega);have hS6:=hS.keeps Od (by omega);have hC6:=hC.keeps Od (by omega);have hu6:=hu.keeps Od (fun a n cp he hj=>by have:=(HUB.out a n cp he).1;omega);have Ny:=hb.trans (Od.below hb.size (fun i h=>by omega));have hl6:=Pr.out.keeps On (fun a n cp he hj=>by have:=(HLOB.out a n cp he).1;omega);have hlb:=Rt.block;have Ru:=Rt.fH lI;have QT:∀i,ez (.slice av acc.length LU) i ->i < w1.heap.size:=fun i hi=>(PS.out.lt hi).2;have QU:∀u:Value,(∀a n cp,u= .slice (some a) n cp ->w1.heap.size <=a.block/\a.block < w7.heap.size) ->vy (Sb+1) w7 (.slice av acc.length LU) u:=fun u hx a n cp he=>by
      obtain⟨g1,g2⟩:=hx a n cp he;exact⟨by omega,g2,fun h=>by have:=QT _ h;omega⟩
     have hsz56:=On.size;have hsz16:=Od.size;have HU6:=V (show(ee 2 fD w7 (Value.slice au' M0.length Nh) M0/\vy (Sb+1) w7 (.slice av acc.length LU) (.slice au' M0.length Nh))/\ee 2 kg w7 (.slice al Mx.length Oo) Mx/\vy (Sb+1) w7 (.slice av acc.length LU) (.slice al Mx.length Oo)from
      ⟨⟨hl6,QU _ (fun a n cp he=>by have:=HLOB.out a n cp he;omega)⟩,Ru,QU _ (fun a n cp he=>by have:=hlb a n cp he;omega)⟩)
     have HOKF:=V (show eR.ok ⟨x0,x1,M0,x2,Mx⟩from⟨⟨by show(-9223372036854775808:Int) <=(x0:Int);omega,by show(x0:Int) <=9223372036854775807;omega⟩,⟨by show(-9223372036854775808:Int) <=(x1:Int);omega,by show(x1:Int) <=9223372036854775807;omega⟩,⟨by show(-9223372036854775808:Int) <=(x2:Int);omega,by show(x2:Int) <=9223372036854775807;omega⟩,HLV.out,hokl⟩);obtain⟨p0,p1,p2⟩:=hS6.three;have HTL:=V (show acc.length+1+oF (none:Option (List UInt8)) <=l.length+1 from HT.out _ (by omega));clear N6 hokl Nm hk15 On hl6 hlb Ru QT QU e0 e1 e2 e3 e4 hC hS hu hb HLOB Pr HUR HT hlenl Rt hF;go_wp2_with (first | (at_builtin;refine Stop.out ?_));change wpList _ _ _ _ _ (World.alloc _ (.cells #[.int .i64 x0, .int .i64 x1, .slice au' M0.length Nh, .int .i64 x2, .slice al Mx.length Oo] 124));obtain⟨us,k1,k2,k3,k4⟩:=hof6;have hzl:(acc.zip us).length <=400002:=by rw [bS];omega
     refine fb w7 rfl _ _ 58 rfl _ 72 (by kernel_rfl) mA rfl (by decide) (by decide) (Sb+1) (.slice av acc.length LU) (acc.zip us) rfl k2 ((⟨x0,x1,M0,x2,Mx⟩,(.slice au' M0.length Nh, .slice al Mx.length Oo)):eR × Value × Value) _ rfl rfl (by intro q hq;simp only [lT,bH,bP,da]at hq;rcases hq with rfl | rfl | rfl | rfl | rfl <;>rfl) rfl (by omega) (by omega) ?_;intro v8 w8 ho8 Nn hs8;have Lu:∀i,ez (.slice av acc.length LU) i ->Sb+1 <=i:=fun i hi=>(ey k2 hi).1;have Oq:=gP.app k1 k3 k4 Nn hs8 HOKF.out HU6.out ho8;generalize hA:acc++[(⟨x0,x1,M0,x2,Mx⟩:eR)]=Oe at Oq;have HA:=V hA;clear hA;have hr8:=HR6.out.keeps Nn (fun h=>by have:=Lu _ h;omega) (fun i hi=>by have:=Lu _ hi;omega);have hC8:=hC6.keeps Nn (fun h=>by have:=Lu _ h;omega);have hS8:=hS6.keeps Nn (fun h=>by have:=Lu _ h;omega);have hu8:=hu6.keeps Nn (fun a n cp he hj=>by have:=(HUB.out a n cp he).2;have:=Lu _ hj;omega);have hb8:=Ny.trans (Nn.below (by omega) (fun i hi=>by have:=Lu _ hi;omega));obtain⟨av8,Qo,rfl,-,-⟩:=Oq.jN.slice;have y1:=hS8.free 1;obtain⟨q0',q1',q2'⟩:=hS8.three;have MZ:=iQ w8 Sb 1 (.slice av8 Oe.length Qo);have hof9:=Oq.keeps MZ (fun i h=>by omega);have hr9:=hr8.keeps MZ (by omega) (fun i h=>by omega);have hC9:=hC8.keeps MZ (by omega);have hS9:=hS8.set 1 (.slice av8 Oe.length Qo);have hu9:=hu8.keeps MZ (fun a n cp he hj=>by have:=(HUB.out a n cp he).2;omega);have hb9:=hb8.trans (MZ.below hb8.size (fun i h=>by omega));have HOF9:=V hof9;have HR9:=V hr9;have HC9:=V hC9;have HS9:=V hS9;have HU9:=V hu9;clear hof9 hr9 hC9 hS9 hu9 MZ Oq hr8 hC8 hS8 hu8 hb8 Lu ho8 Nn hs8 k1 k2 k3 k4 hC6 hS6 hu6 Ny Od p0 p1 p2 f0' f1' f2' f3' f4' c1;go_wp2_with fail;refine HRO.out _ _ ⟨_,Oe,n',(none:Option (List UInt8)),rfl,⟨?_,HOF9.out,?_,HR9.out,HC9.out,by simpa using HS9.out,HU9.out,hb9,by omega⟩⟩ ?_
     ·rw [HV.out,jJ,HFR.out, <- HA.out]
      simp
     ·rw [<- HA.out,ah]
      exact HTL.out
     ·simp [intOf]
    | some r=>
     have c1:w7.cell? ⟨w0.heap.size,1,none⟩=some (.bool false):=c1;obtain⟨k',rfl⟩:∃k',k=k'+1:=⟨k - 1,by omega⟩;have HVL:=V N6;have HOKL:=V hokl;obtain⟨y0,q1,g0⟩:∃x t,fB (some r)=(x,t):=⟨_,_,rfl⟩;obtain⟨y1,q2,g1⟩:∃x t,fB q1=(x,t):=⟨_,_,rfl⟩;have by0:=lp (some r);have by1:=lp q1;have ty0:=sZ r;have ty1:=mB q1;rw [g0]at by0 ty0;rw [g1]at by1 ty1;simp only at by0 by1 ty0 ty1;have HLL:=V (show Mx.length+1+oF q2 <=oF r5 by omega);have Ng:Mx.length <=500000:=by omega
     have HRD7:=V Nm;have HOL:=V Rt;have hlab:=hF.cell 4;have hlab:w7.cell? ⟨F,4,none⟩=some (.slice al Mx.length Oo):=hlab;have hFlt:=hF.lt;clear N6 hokl hlenl ty0 ty1 Nm Rt;go_wp2_with fail;refine eK (fun w'=>w'.cell? ⟨F,4,none⟩=some (.slice al Mx.length Oo)) 10
      (up 0 3 ((4,true)::(3,false)::(5,false)::(6,false)::(7,false)::(8,false)::(9,true)::[])) (by kernel_rfl) (by kernel_rfl) hlab ?_
     clear c1 hlab;iterate 4 (first | (apply sk rfl rfl;simp only [pt]) | (apply dV rfl rfl rfl;·(rintro w' t0;go_wp2;exact⟨rfl,rfl,rfl⟩)))
     refine dZ rfl rfl ?_;go_wp2_with fail;refine(jW w.heap.size w0.heap.size (some r) w7.drew HRD7.out).mono ?_;rintro x w8 ⟨rfl,hr8,Nn⟩;rw [g0]at hr8⊢;have hF8:=hF.drew.keeps Nn (by omega);have hk78:=Nn.AQ;clear Nn;go_wp2_with fail;refine⟨hF8.cell 4,?_⟩;refine dZ rfl rfl ?_;go_wp2_with fail;refine(jW w.heap.size w0.heap.size q1 w8 hr8).mono ?_;rintro x w9 ⟨rfl,hr9,hk9⟩;rw [g1]at hr9⊢;have hF9:=hF8.keeps hk9 (by omega);have hk79:=hk78.trans hk9 (fun i h=> .inl h);have hsz79:=hk79.size;have hsz57:=On.size;have hol9:=HOL.out.keeps hk79 (fun i hi=>by have:=(ey HOL.out hi).1;omega);have hk59:=On.trans hk79 (fun i h=> .inl h);have HR9:=V hr9;clear hk78 hk9 hF8 hr8 hr9 hk79 On HRD7 HOL hF;go_wp2_with fail;refine⟨hF9.cell 4,?_⟩;refine dZ rfl rfl ?_;go_wp2_with fail;refine⟨hF9.cell 4,?_⟩;refine dZ rfl rfl ?_;go_wp2_with fail;refine⟨(hF9.alloc _).cell 4,?_⟩;refine dZ rfl rfl ?_;refine fb w9 rfl _ _ 122 rfl _ 16 (by kernel_rfl) uz rfl (by decide) (by decide) (F+1) (.slice al Mx.length Oo) Mx rfl hol9 (⟨y0,y1⟩:kN) _ rfl rfl (zY _) rfl (by omega) (by omega) ?_;intro v10 w10 Ps PN hs10;have Lu:∀i,ez (.slice al Mx.length Oo) i ->F+1 <=i:=fun i hi=>(ey hol9 hi).1;have hr10:=HR9.out.keeps PN (fun h=>by have:=Lu _ h;omega) (fun i hi=>by have:=Lu _ hi;omega);have hF10:=hF9.keeps PN (fun h=>by have:=Lu _ h;omega);have hk5a:=hk59.trans PN (fun i h=> .inr (by have:=Lu _ h;omega));generalize hA:Mx++[(⟨y0,y1⟩:kN)]=Oe at Ps;have HA:=V hA;obtain⟨a9,cap9,rfl,-,-⟩:=Ps.fH lI;clear hA PN hs10 Lu hk59 hF9 hol9 HR9;have y1':=hF10.free 4;have hlab:w10.cell? ⟨F,4,none⟩=some (.slice al Mx.length Oo):=hF10.cell 4;go_wp2_with fail;refine⟨hlab,?_⟩;iterate 1 (first | (apply sk rfl rfl;simp only [pt]) | (apply dV rfl rfl rfl;·(rintro w' t0;go_wp2;exact⟨rfl,rfl,rfl⟩)))
     refine fu rfl rfl ?_;have MZ:=iQ w10 F 4 (.slice a9 Oe.length cap9);have hlx:=Ps.keeps MZ (fun i hi=>by have:=(ey Ps hi).1;omega);have hrx:=hr10.keeps MZ (by omega) (fun i h=>by omega);have hFx:=hF10.set 4 (.slice a9 Oe.length cap9);have hk5x:=hk5a.trans MZ (fun i h=> .inr (by omega));have HLX:=V hlx;have HRX:=V hrx;have HFX:=V hFx;clear hlx hrx hFx MZ hk5a Ps hr10 hF10;go_wp2;refine⟨trivial,?_⟩;refine aA ?_;go_wp2;refine HR.out _ _ ⟨_,Oe,k',q2,rfl,⟨?_,HLX.out,?_,?_,HRX.out,by simpa using HFX.out,hk5x,by omega⟩⟩ ?_
     ·rw [HVL.out,ny,g0]
      simp only [g1, <- HA.out];simp
     ·rw [<- HA.out]
      intro z hz;rcases bT.1 hz with h | h
      ·exact HOKL.out z h
      ·obtain rfl:=aV.1 h
       exact⟨⟨by show(-9223372036854775808:Int) <=(y0:Int);omega,by show(y0:Int) <=9223372036854775807;omega⟩,by show(-9223372036854775808:Int) <=(y1:Int);omega,by show(y1:Int) <=9223372036854775807;omega⟩
     ·rw [<- HA.out,ah]
      exact HLL.out
     ·simp [intOf]
theorem ej {P:Program} {fn:Func} {t0:Tmp} {ty:TypeId} (h:fn.results=#[.cell t0 ty]) (tmps:Array Value) (w:World) {a:Addr} {v:Value} (ht:tmps.getD t0 undef= .pointer (some a))
  (hl:(loadVar ty a).run P w= .ok v w):(results fn tmps).run P w= .ok v w:=by
 have ht':tmps[t0]?.getD undef= .pointer (some a):=by simpa using ht
 simp [results,h,ht',asAddr,hl]
theorem dU.cell {S:Nat ->Prop} {w w':World} (h:dU S w w') {p:Addr} (hp:p.block < w.heap.size) (hs:¬ S p.block):w'.cell? p=w.cell? p:=aX (h.block p.block hp hs)
section
section
variable {α:Type} {k:Nat} {enc:α ->List Value} {t:TypeId}
theorem kl {P:Program} (w:World) {ops:Array Oper} {rest:List Oper} {o:Oper} {a:Act} {Q:Exit ->Act ->World ->Prop} (OP:o.guard=none) (s x:Operand) (ts:TypeId)
  (ho:o.op= .call {callee:= .builtin .append,args:=#[s,x],argTypes:=#[ts,ts]})
  (z:Value) (bytes:Nat) (ht:P.underlying ts=some (.slice t)) (hi:(P.info? t).map (fun i=>(i.zero,i.size,i.bytes))=some (some z,k,bytes)) (P5:z.cells.size=k) (h0:0 < k) (Nk:bytes <=100000000)
  (B:Nat) (v:Value) (l:List α) (hs:a.eval s=v) (Lu:dS t k enc w B v l) (hk:∀x,(enc x).length=k)
  (m:List α) (ad:Addr) (n c:Nat) (hx:a.eval x= .slice (some ad) n c) (hm:ee k enc w (.slice (some ad) n c) m) (h1:∀y∈m,∀u∈enc y,u.oneCell'=true)
  (OU:l.length+m.length <=1000000) (LW:B <=w.heap.size)
  (h:∀v' w',dS t k enc w' B v' (l++m) ->dU (ez v) w w' ->eB w v v' ->wpList P ops Q rest (a.put o.dst v') w'):
  wpList P ops Q (o::rest) a w:=by
 obtain⟨i0,hi,NM,ME,Nd⟩:=bV hi;obtain⟨a',LQ,hv,N3,MF,hc3⟩:=hm;injection hv with e1 e2 e3;subst e1 e2 e3;refine qO (P:=P) w OP s x ts ho B t i0 z k bytes ht hi NM ME Nd P5 h0 v l.length (l.flatMap enc) hs Lu ad m.length c (m.flatMap enc) hx (jH hk m) ?_ ?_ (by simp only [maxLen];omega) ?_ LW ?_
 ·intro j u hu
  have hj:j < m.length*k:=by rw [<- jH hk];exact(aG.1 hu).1
  have hjk:j/k < m.length:=Nat.div_lt_of_lt_mul (by rw [Nat.mul_comm];exact hj);obtain⟨y,hy⟩:∃y,m[j/k]?=some y:=⟨_,aq hjk⟩;obtain⟨b,off,ha,LD,hc⟩:=hc3 _ y hy;injection ha with ha;subst ha;have h3:=rB hk m (j/k) y (j %k) hy (Nat.mod_lt _ h0);have h4:j/k*k+j %k=j:=Nat.div_add_mod' j k;rw [h4,hu]at h3;have h5:=hc (j %k) u h3.symm;have O1:(⟨b,off,none⟩:Addr).add j=⟨b,off+j,none⟩:=by unfold Addr.add;split <;>simp_all
  rw [O1, <- h5]
  congr 2
  omega
 ·intro u hu
  obtain⟨y,hy,hu⟩:=List.mem_flatMap.1 hu;exact h1 y hy u hu
 ·have:(l.length+m.length)*bytes <=1000000*100000000:=Nat.mul_le_mul (by omega) Nk
  omega
 ·intro v' w' h2 h3 h4
  refine h v' w' ?_ h3 h4;simpa [dS] using h2
theorem zr (hk:∀x,(enc x).length=k):∀(l:List α) (i:Nat) (x y:α) (j:Nat) (u:Value),l[i]?=some x ->j < k ->enc y=(enc x).set j u ->(l.set i y).flatMap enc=(l.flatMap enc).set (i*k+j) u
 | [],i,x,y,j,u,h,_,_=>by simp at h
 | d::l,0,x,y,j,u,h,hj,he=>by
  simp at h;subst h;rw [bC,bL,bL,he,List.set_append_left _ _ (by rw [hk];omega)];simp
 | d::l,i+1,x,y,j,u,h,hj,he=>by
  rw [bz,bL,bL,List.set_append_right _ _ (by rw [hk,cS];omega)];rw [show(i+1)*k+j - (enc d).length=i*k+j from by rw [hk,cS];omega];rw [zr hk l i x y j u (by simpa using h) hj he]
theorem dS.set {w:World} {B g n cap:Nat} {l:List α} (hk:∀x,(enc x).length=k) (h:dS t k enc w B (.slice (some ⟨g,0,none⟩) n cap) l) {i j:Nat} {x y:α} {u:Value} (hx:l[i]?=some x) (hj:j < k) (he:enc y=(enc x).set j u):
  dS t k enc (w.setCell ⟨g,i*k+j,none⟩ u) B (.slice (some ⟨g,0,none⟩) n cap) (l.set i y):=by
 obtain⟨hl,hv | ⟨g',LQ,cur,hv,hb,hg,hn,hm,hs,ht⟩⟩:=h
 ·cases hv.1
 ·injection hv with e1 e2 e3
  injection e1 with e1;injection e1 with e1 e4;subst e1 e2 e3;refine⟨by rw [jH hk], .inr ⟨g,cap,cur.setIfInBounds (i*k+j) u,by rw [dk],hb,heap_setCell_same w g _ cur _ _ hg,by rw [dk];exact hn,hm,by simpa using hs,?_⟩⟩;rw [zr hk l i x y j u hx hj he,dk];rw [Array.toList_setIfInBounds,List.take_set,ht]
theorem dS.open {w:World} {B:Nat} {v:Value} {l:List α} (h:dS t k enc w B v l) (hl:l≠[]):∃g cap cur,v= .slice (some ⟨g,0,none⟩) l.length cap/\B <=g/\g < w.heap.size/\w.heap[g]?=some (.cells cur t)/\l.length <=cap/\cap <=maxLen:=by
 obtain⟨_,hv | ⟨g,cap,cur,hv,hb,hg,hn,hm,hs,ht⟩⟩:=h
 ·exact absurd (aH hv.2) hl
 ·exact⟨g,cap,cur,hv,hb,(bZ.1 hg).1,hg,hn,hm⟩
theorem dS.empty (w:World):dS t k enc (w.alloc (.cells #[] t)) w.heap.size (.slice (some ⟨w.heap.size,0,none⟩) 0 0) []:=
 ⟨by simp, .inr ⟨w.heap.size,0,#[],rfl,ag _,dn w _,ag _,by simp [maxLen],by simp,by simp⟩⟩
def vt (t:TypeId) (k:Nat) (enc:α ->List Value) (l:List α) (w:World) (e:Ending) (w':World):Prop:=∃v,e= .returned v/\dS t k enc w' w.heap.size v l/\Below w.heap.size w w'
end
theorem mP (v:Value) (l:List eX) (w:World) (hl:ee 2 fD w v l) (OV:l.length <=1000000):Calls prog 31 #[v] w (vt 52 2 fD l w):=by
 obtain⟨a,cap,rfl,h1,h2,h3⟩:=id hl;unfold maxLen at h2;have HI:=V hl;cases a with
 | none=>
  obtain rfl:l=[]:=by
   cases l with
   | nil=>rfl
   | cons x l=>
    obtain⟨_,_,h,_⟩:=h3 0 x rfl;cases h
  clear h3 hl;have e1:=bK (P:=prog) w 47 52 none 0 cap 0 0 (by kernel_rfl);rw [dg]at e1;go_enter func31,ntmps31;go_wp2;go_ret;exact⟨_,rfl,dS.nil _ _,an _ _⟩
 | some ad=>
  clear h3 hl;have e1:=bK (P:=prog) w 47 52 (some ad) l.length cap 0 0 (by kernel_rfl);rw [df]at e1;go_enter func31,ntmps31;go_wp2_with (first | (at_builtin;refine Stop.out ?_));change wpList _ _ _ _ _ (World.alloc _ (.cells #[] 52));have Me:=(an w.heap.size w).alloc (ag _) (.cells #[] 52);refine kl (w.alloc (.cells #[] 52)) rfl _ _ 47 rfl _ 16 (by kernel_rfl) kL rfl (by decide) (by decide) w.heap.size (.slice (some ⟨w.heap.size,0,none⟩) 0 0) [] rfl (dS.empty w) fI l ad l.length cap rfl (HI.out.below Me) (fun y _=>lD y) (by simp only [aL];omega) Me.size ?_;intro v w' ho hk hs;have hb:Below w.heap.size w w':=Me.trans (hk.below Me.size (fun i hi=>by simp [ez,Value.ownBlock]at hi;omega));clear hk hs Me;go_wp2;go_ret;exact⟨v,rfl,by simpa using ho,hb⟩
theorem B8 (v:Value) (l:List kN) (w:World) (hl:ee 2 kg w v l) (OV:l.length <=1000000):Calls prog 64 #[v] w (vt 144 2 kg l w):=by
 obtain⟨a,cap,rfl,h1,h2,h3⟩:=id hl;unfold maxLen at h2;have HI:=V hl;cases a with
 | none=>
  obtain rfl:l=[]:=by
   cases l with
   | nil=>rfl
   | cons x l=>
    obtain⟨_,_,h,_⟩:=h3 0 x rfl;cases h
  clear h3 hl;have e1:=bK (P:=prog) w 122 144 none 0 cap 0 0 (by kernel_rfl);rw [dg]at e1;go_enter func64,ntmps64;go_wp2;go_ret;exact⟨_,rfl,dS.nil _ _,an _ _⟩
 | some ad=>
  clear h3 hl;have e1:=bK (P:=prog) w 122 144 (some ad) l.length cap 0 0 (by kernel_rfl);rw [df]at e1;go_enter func64,ntmps64;go_wp2_with (first | (at_builtin;refine Stop.out ?_));change wpList _ _ _ _ _ (World.alloc _ (.cells #[] 144));have Me:=(an w.heap.size w).alloc (ag _) (.cells #[] 144);refine kl (w.alloc (.cells #[] 144)) rfl _ _ 122 rfl _ 16 (by kernel_rfl) uz rfl (by decide) (by decide) w.heap.size (.slice (some ⟨w.heap.size,0,none⟩) 0 0) [] rfl (dS.empty w) lI l ad l.length cap rfl (HI.out.below Me) (fun y _=>zY y) (by simp only [aL];omega) Me.size ?_;intro v w' ho hk hs;have hb:Below w.heap.size w w':=Me.trans (hk.below Me.size (fun i hi=>by simp [ez,Value.ownBlock]at hi;omega));clear hk hs Me;go_wp2;go_ret;exact⟨v,rfl,by simpa using ho,hb⟩
theorem B9 (v:Value) (l:List (eR × Value × Value)) (w:World) (hl:ee 5 lT w v l) (OV:l.length <=1000000) (hone:∀y∈l,∀u∈lT y,u.oneCell'=true):Calls prog 63 #[v] w (vt 124 5 lT l w):=by
 obtain⟨a,cap,rfl,h1,h2,h3⟩:=id hl;unfold maxLen at h2;have HI:=V hl;cases a with
 | none=>
  obtain rfl:l=[]:=by
   cases l with
   | nil=>rfl
   | cons x l=>
    obtain⟨_,_,h,_⟩:=h3 0 x rfl;cases h
  clear h3 hl;have e1:=bK (P:=prog) w 58 124 none 0 cap 0 0 (by kernel_rfl);rw [dg]at e1;go_enter func63,ntmps63;go_wp2;go_ret;exact⟨_,rfl,dS.nil _ _,an _ _⟩
 | some ad=>
  clear h3 hl;have e1:=bK (P:=prog) w 58 124 (some ad) l.length cap 0 0 (by kernel_rfl);rw [df]at e1;go_enter func63,ntmps63;go_wp2_with (first | (at_builtin;refine Stop.out ?_));change wpList _ _ _ _ _ (World.alloc _ (.cells #[] 124));have Me:=(an w.heap.size w).alloc (ag _) (.cells #[] 124);refine kl (w.alloc (.cells #[] 124)) rfl _ _ 58 rfl _ 72 (by kernel_rfl) mA rfl (by decide) (by decide) w.heap.size (.slice (some ⟨w.heap.size,0,none⟩) 0 0) [] rfl (dS.empty w) iq l ad l.length cap rfl (HI.out.below Me) hone (by simp only [aL];omega) Me.size ?_;intro v w' ho hk hs;have hb:Below w.heap.size w w':=Me.trans (hk.below Me.size (fun i hi=>by simp [ez,Value.ownBlock]at hi;omega));clear hk hs Me;go_wp2;go_ret;exact⟨v,rfl,by simpa using ho,hb⟩
end
theorem dS.ne {α β:Type} {t t':TypeId} {k k':Nat} {enc:α ->List Value} {Ot:β ->List Value} {w:World} {B B':Nat} {v v':Value} {l:List α} {l':List β} (h:dS t k enc w B v l) (h':dS t' k' Ot w B' v' l') (MO:t≠t') (g:Nat) (hg:ez v g):¬ ez v' g:=by
 intro Rv;obtain⟨_,hv | ⟨g1,cap,cur,hv,hb,h1,_⟩⟩:=h
 ·rw [hv.1]at hg
  simp [ez,Value.ownBlock]at hg
 obtain⟨_,P6 | ⟨g2,LQ,cur',P6,LP,h2,_⟩⟩:=h'
 ·rw [P6.1]at Rv
  simp [ez,Value.ownBlock]at Rv
 rw [hv]at hg;rw [P6]at Rv;simp [ez,Value.ownBlock]at hg Rv;subst hg Rv;rw [h1]at h2;injection h2 with h2;injection h2 with _ h2;exact MO h2
theorem dS.cell {α:Type} {t:TypeId} {k:Nat} {enc:α ->List Value} {w:World} {B g n cap:Nat} {l:List α} (hk:∀x,(enc x).length=k) (h:dS t k enc w B (.slice (some ⟨g,0,none⟩) n cap) l) {i j:Nat} {x:α} {u:Value} (hx:l[i]?=some x) (hu:(enc x)[j]?=some u):w.cell? ⟨g,i*k+j,none⟩=some u:=by
 obtain⟨a,c,hv,_,_,hc⟩:=h.fH hk;obtain⟨b,off,ha,_,LM⟩:=hc i x hx;injection hv with e1 e2 e3;rw [<- e1]at ha;injection ha with ha;injection ha with e4 e5;subst e4 e5;have:=LM j u hu;rw [bR]at this;exact this
theorem Cn {α β:Type}:∀(l:List α) (us:List β) (k:Nat) (f:α) (u:β),l[k]?=some f ->(l.zip us).set k (f,u)=l.zip (us.set k u)
 | [],us,k,f,u,h=>by simp at h
 | d::l,[],k,f,u,h=>by simp
 | d::l,x::us,0,f,u,h=>by
  simp at h;simp [h]
 | d::l,x::us,k+1,f,u,h=>by
  simp only [List.zip_cons_cons,bz];rw [Cn l us k f u (by simpa using h)]
def kf (w:World) (M:Nat) (v:Value) (l:List eR):Prop:=
 ∃us:List (Value × Value),us.length=l.length/\dS 124 5 lT w M v (l.zip us)/\(∀f∈l,f.ok)/\
  ∀(i:Nat) (f:eR) (u:Value × Value),l[i]?=some f ->us[i]?=some u ->dS 52 2 fD w M u.1 f.locals/\dS 144 2 kg w M u.2 f.labels
theorem kf.jN {w:World} {M:Nat} {v:Value} {l:List eR} (h:kf w M v l):fS w v l:=by
 obtain⟨us,h1,h2,h3,h4⟩:=h;exact⟨us,h1,h2.fH iq,fun i f u hf hu=>⟨(h4 i f u hf hu).1.fH fI,(h4 i f u hf hu).2.fH lI⟩,h3⟩
theorem kf.keeps {w w':World} {M:Nat} {v:Value} {l:List eR} {S:Nat ->Prop} (h:kf w M v l) (hk:dU S w w') (hs:∀i,S i ->i < M):kf w' M v l:=by
 obtain⟨us,h1,h2,h3,h4⟩:=h;have key:∀{α:Type} {t:TypeId} {k:Nat} {enc:α ->List Value} {u:Value} {l:List α},dS t k enc w M u l ->dS t k enc w' M u l:=fun h=>h.keeps hk (fun i hi hj=>by have:=(ey h hi).1;have:=hs i hj;omega);exact⟨us,h1,key h2,h3,fun i f u hf hu=>⟨key (h4 i f u hf hu).1,key (h4 i f u hf hu).2⟩⟩
def IF (s:fy) (w:World) (e:Ending) (w':World):Prop:=∃uv uf M,e= .returned (.agg #[uv,uf, .int .i64 s.asks])/\Below w.heap.size w w'/\w.heap.size <=M/\M <=w'.heap.size/\
 dS 52 2 fD w' w.heap.size uv s.dX/\(∀g,ez uv g ->g < M)/\kf w' M uf s.eg
def Kb (l:List eR) (us:List (Value × Value)) (M:Nat) (vf:Value) (w1 w':World) (PH:List (Value × Value)) (k:Nat):Prop:=
 k <=l.length/\dU (ez vf) w1 w'/\PH.length=l.length/\dS 124 5 lT w' M vf (l.zip PH)/\
  (∀(i:Nat) (f:eR) (u:Value × Value),i < k ->l[i]?=some f ->PH[i]?=some u ->dS 52 2 fD w' M u.1 f.locals/\dS 144 2 kg w' M u.2 f.labels)/\
  ∀i,k <=i ->PH[i]?=us[i]?
def zw (B X:Nat) (vf u x:Value) (w:World):Prop:=w.cell? ⟨B,1,none⟩=some vf/\w.cell? ⟨X,2,none⟩=some u/\w.cell? ⟨X,4,none⟩=some x
theorem zw.keeps {B X:Nat} {vf u x:Value} {w w':World} {S:Nat ->Prop} (h:zw B X vf u x w) (hk:dU S w w') (hB:B < w.heap.size/\¬ S B) (hX:X < w.heap.size/\¬ S X):zw B X vf u x w':=
 ⟨(aX (a:=⟨B,1,none⟩) (hk.block B hB.1 hB.2)).trans h.1,(aX (a:=⟨X,2,none⟩) (hk.block X hX.1 hX.2)).trans h.2.1,(aX (a:=⟨X,4,none⟩) (hk.block X hX.1 hX.2)).trans h.2.2⟩
theorem Bn {w:World} {l:List eR} {us:List (Value × Value)} (h:∀(i:Nat) (f:eR) (u:Value × Value),l[i]?=some f ->us[i]?=some u ->ee 2 fD w u.1 f.locals/\ee 2 kg w u.2 f.labels):
  ∀y∈l.zip us,∀u∈lT y,u.oneCell'=true:=by
 intro y hy u hu;obtain⟨i,hi⟩:=List.mem_iff_getElem?.1 hy;obtain⟨h1,h2⟩:=cR.1 hi;obtain⟨⟨a,c,e1,_⟩,a2,c2,e2,_⟩:=h i _ _ h1 h2;simp only [lT,e1,e2,bH,bP,da]at hu;rcases hu with rfl | rfl | rfl | rfl | rfl <;>rfl
theorem vA (uv uf:Value) (s:fy) (w:World) (LS:jl w uv uf s) (QV:s.dX.length <=1000) (hl2:s.eg.length <=1000) (hl3:∀f∈s.eg,f.locals.length <=1000/\f.labels.length <=1000):
  Calls prog 32 #[.agg #[uv,uf, .int .i64 s.asks]] w (IF s w):=by
 obtain⟨hv,hf,LF⟩:=id LS;obtain⟨av,LU,rfl,hcv1,M6,_⟩:=id hv;obtain⟨us,hu1,Nz,hu3,hu4⟩:=id hf;obtain⟨af,MY,rfl,hcf1,P7⟩:=hf.slice;unfold maxLen at M6;have HL3:=V hl3;have MI:=(eD.new w #[.slice av s.dX.length LU, .slice af s.eg.length MY, .int .i64 s.asks] 60).alloc (.cells #[.slice none 0 0, .slice none 0 0, .int .i64 0] 60);have hbz:eD ((w.alloc (.cells #[.slice av s.dX.length LU, .slice af s.eg.length MY, .int .i64 s.asks] 60)).alloc (.cells #[.slice none 0 0, .slice none 0 0, .int .i64 0] 60)) (w.heap.size+1) #[.slice none 0 0, .slice none 0 0, .int .i64 0] 60:=by
  have:=eD.new (w.alloc (.cells #[.slice av s.dX.length LU, .slice af s.eg.length MY, .int .i64 s.asks] 60)) #[.slice none 0 0, .slice none 0 0, .int .i64 0] 60;rw [aC]at this;exact this
 have LR:Below w.heap.size w ((w.alloc (.cells #[.slice av s.dX.length LU, .slice af s.eg.length MY, .int .i64 s.asks] 60)).alloc (.cells #[.slice none 0 0, .slice none 0 0, .int .i64 0] 60)):=((an w.heap.size w).alloc (ag _) _).alloc (by simp) _;have HV:=V hv;have HU:=V hu3;have HZ:=V Nz;have HOKF:=V hu4;have HUL:=V hu1;have HONE:=V (Bn hu3);have hzl:(s.eg.zip us).length=s.eg.length:=by rw [bS,hu1,cP]
 clear hv hf LS LF hu1 Nz hu3 hu4 hl3;go_enter func32,ntmps32;go_wp2_with fail;generalize((w.alloc (.cells #[.slice av s.dX.length LU, .slice af s.eg.length MY, .int .i64 s.asks] 60)).alloc (.cells #[.slice none 0 0, .slice none 0 0, .int .i64 0] 60))=w0 at MI hbz LR⊢;have hX0:w.heap.size+1 < w0.heap.size:=hbz.lt;obtain⟨x0,x1,x2⟩:=MI.three;refine eK (fun w'=>w'.cell? ⟨w.heap.size,1,none⟩=some (.slice af s.eg.length MY)) 9
  [(0,true),(3,true),(4,true),(1,false),(2,false),(6,true),(5,false),(7,false),(8,true)] (by kernel_rfl) (by kernel_rfl) x1 ?_
 iterate 3 (first | (apply sk rfl rfl;simp only [pt]) | (apply dV rfl rfl rfl;·(rintro w' t0;go_wp2;exact⟨rfl,rfl,rfl⟩)))
 refine dZ rfl rfl ?_;go_wp2_with fail;refine⟨x1,?_⟩;refine dZ rfl rfl ?_;go_wp2_with fail;refine(mP _ s.dX w0.drew (HV.out.below LR.drew) (by omega)).mono ?_;rintro x w2 ⟨v,rfl,Rs,hbv'⟩;have hbv:Below w0.heap.size w0 w2:=fF hbv';have Rs:dS 52 2 fD w2 w0.heap.size v s.dX:=Rs;have Pn:=MI.below hbv MI.lt;have Nd:=hbz.below hbv hbz.lt;have Lw:=LR.trans (hbv.mono LR.size);have OB:=hbv.size;clear hbv' hbv MI hbz LR x0 x1 x2;go_wp2_with fail;refine⟨Pn.cell 1,?_⟩;iterate 1 (first | (apply sk rfl rfl;simp only [pt]) | (apply dV rfl rfl rfl;·(rintro w' t0;go_wp2;exact⟨rfl,rfl,rfl⟩)))
 refine dZ rfl rfl ?_;go_wp2_with fail;refine(B9 _ (s.eg.zip us) w2 (HZ.out.below Lw) (by omega) HONE.out).mono ?_;rintro x w3 ⟨vf,rfl,P8,hbf⟩;have hx3:=Pn.below hbf Pn.lt;have hz3:=Nd.below hbf Nd.lt;have LZ:=Lw.trans (hbf.mono Lw.size);have hov3:=Rs.below hbf;have OC:=hbf.size;obtain⟨a2,LA,rfl,_,_,_⟩:=hov3.fH fI;obtain⟨a3,MP,hvf,_,_,_⟩:=P8.fH iq;rw [hzl]at hvf;subst hvf;have f0:=hx3.free 0;have x0:w3.cell? ⟨w.heap.size,0,none⟩=some (.slice av s.dX.length LU):=hx3.cell 0;have hkx1:=iQ w3 w.heap.size 0 (.slice a2 s.dX.length LA);have hx4:eD (w3.setCell ⟨w.heap.size,0,none⟩ (.slice a2 s.dX.length LA)) w.heap.size #[.slice a2 s.dX.length LA, .slice af s.eg.length MY, .int .i64 s.asks] 60:=by
  have:=hx3.set 0 (.slice a2 s.dX.length LA);simpa using this
 have hM:=Rs.block;have HOV:=V hov3;have QW:=V (show∀g,ez (.slice a2 s.dX.length LA) g ->w0.heap.size <=g/\g < w2.heap.size from fun g hg=>ey Rs hg);have PS:=V P8;clear Rs hov3 P8 hM hbf;go_wp2_with fail;refine⟨hx3.cell 1,?_⟩;refine dZ rfl rfl ?_;go_wp2_with fail;generalize w3.setCell ⟨w.heap.size,0,none⟩ (.slice a2 s.dX.length LA)=w4 at hx4 hkx1⊢;have x1:w4.cell? ⟨w.heap.size,1,none⟩=some (.slice af s.eg.length MY):=hx4.cell 1;have f1:=hx4.free 1;refine⟨x1,?_⟩;iterate 1 (first | (apply sk rfl rfl;simp only [pt]) | (apply dV rfl rfl rfl;·(rintro w' t0;go_wp2;exact⟨rfl,rfl,rfl⟩)))
 refine fu rfl rfl ?_;have hkx2:=iQ w4 w.heap.size 1 (.slice a3 s.eg.length MP);have hx5:eD (w4.setCell ⟨w.heap.size,1,none⟩ (.slice a3 s.eg.length MP)) w.heap.size #[.slice a2 s.dX.length LA, .slice a3 s.eg.length MP, .int .i64 s.asks] 60:=by
  have:=hx4.set 1 (.slice a3 s.eg.length MP);simpa using this
 have MZ:=hkx1.trans hkx2 (fun i h=> .inl h);clear x0 f0 hx4 hx3 Pn hkx1;go_wp2;refine⟨trivial,?_⟩;refine aA ?_;generalize w4.setCell ⟨w.heap.size,1,none⟩ (.slice a3 s.eg.length MP)=w1 at hx5 MZ⊢;clear x1 f1 hkx2;have hM0:w0.heap.size <=w2.heap.size:=by omega
 have ME:=hz3.keeps MZ (by omega);have QQ:=MZ.size;have LG:=LZ.trans (MZ.below LZ.size (fun i h=>by omega));have HOV1:=V (HOV.out.keeps MZ (fun i hi=>by have:=QW.out i hi;omega));have hof1:=PS.out.keeps MZ (fun i hi=>by have:=(ey PS.out hi).1;omega);have HX5:=V hx5;have HZ1:=V ME;have hMl:=hof1;clear hMl HOV PS hx5 ME hz3 Nd LZ Lw MZ;obtain⟨M,hMM⟩:∃M,w2.heap.size=M:=⟨_,rfl⟩;rw [hMM]at hof1 hM0 OC;have QW:=V (show∀g,ez (.slice a2 s.dX.length LA) g ->w0.heap.size <=g/\g < M by rw [<- hMM];exact QW.out);clear hMM OB;obtain⟨x0,x1,x2⟩:=HX5.out.three;go_wp2_with fail;clear x0 x1 x2;refine eC (fun a' w'=>∃(PH:List (Value × Value)) (k:Nat),a'=fr (gs a' 0 1 (.pointer (some ⟨w.heap.size,0,none⟩):: .pointer (some ⟨w.heap.size+1,0,none⟩)::gs a' 3 11 (.slice a3 s.eg.length MP:: .int .i64 s.eg.length:: .int .i64 k::gs a' 17 22 [])))/\Kb s.eg us M (.slice a3 s.eg.length MP) w1 w' PH k) (fun a' _=>(s.eg.length - (intOf (a'.tmps.getD 16 undef)).toNat)) ?_ ?_
 ·exact⟨us,0,rfl,by omega,dU.refl _ _,HUL.out,hof1,fun i f u hi=>by omega,fun i _=>rfl⟩
 clear hof1;rintro R a' wr ⟨PH,k,Lv,hJ⟩ HR;dsimp only [fr,gs]at Lv;generalize slot a'=f at Lv;subst Lv;obtain⟨hk,M7,OK,P8,hold,hnew⟩:=hJ;have hszr:=M7.size;have hBM:∀g,ez (.slice a3 s.eg.length MP) g ->M <=g:=fun g hg=>(ey P8 hg).1;have hxr:=HX5.out.keeps M7 (fun h=>by have:=hBM _ h;omega);have hbr:=LG.trans (M7.below LG.size (fun i h=>by have:=hBM _ h;omega));obtain⟨x0,x1,x2⟩:=hxr.three;have HOLD:=V hold;have HNEW:=V hnew;clear hold hnew;by_cases Mi:k < s.eg.length;rotate_left
 ·obtain rfl:k=s.eg.length:=by omega
  have hzr:=HZ1.out.keeps M7 (fun h=>by have:=hBM _ h;omega);obtain⟨y0,y1,y2⟩:=hzr.three;have z0:=hzr.free 0;have z1:=hzr.free 1;have z2:=hzr.free 2;have HB:=V hBM;have PV:=V M7;have HOFR:=V P8;clear hBM M7 P8;go_wp2_with fail;have hx:=hzr.Dm (.slice a2 s.dX.length LA) (.slice a3 s.eg.length MP) (.int .i64 s.asks);have MZ:=wW wr (w.heap.size+1) (.slice a2 s.dX.length LA) (.slice a3 s.eg.length MP) (.int .i64 s.asks);refine aF (ej rfl _ _ rfl hx.vq) rfl ?_;have hsf:=MZ.size;refine⟨_,_,M,rfl,((hbr.setCell (p:=⟨w.heap.size+1,0,none⟩) (by show _ <=w.heap.size+1;omega) _).setCell (p:=⟨w.heap.size+1,1,none⟩) (by show _ <=w.heap.size+1;omega) _).setCell (p:=⟨w.heap.size+1,2,none⟩) (by show _ <=w.heap.size+1;omega) _,by omega,by omega,?_,fun g hg=>(QW.out g hg).2,?_⟩
  ·exact my ((HOV1.out.keeps PV.out (fun i hi hj=>by have:=QW.out i hi;have:=HB.out i hj;omega)).keeps MZ (fun i hi=>by have:=QW.out i hi;omega)) (fun i hi=>by have:=QW.out i hi;omega)
  ·have P7:kf wr M (.slice a3 s.eg.length MP) s.eg:=⟨PH,OK,HOFR.out,HOKF.out,fun i f u hf hu=>HOLD.out i f u (aG.1 hf).1 hf hu⟩
   exact P7.keeps MZ (fun i h=>by omega)
 obtain⟨c,he⟩:∃e,s.eg[k]?=some e:=⟨_,aq Mi⟩;obtain⟨⟨u,x⟩,hux⟩:∃e,us[k]?=some e:=⟨_,aq (by have:=HUL.out;omega)⟩;have hux':PH[k]?=some (u,x):=(HNEW.out k (ag _)).trans hux;have hz:(s.eg.zip PH)[k]?=some (c,(u,x)):=(cR (z:=(c,(u,x)))).2 ⟨he,hux'⟩;obtain⟨g,capg,cur,hvg,Pm,NC,hg3,_,_⟩:=P8.open (by intro h;rw [h]at hz;simp at hz);injection hvg with e1 e2 e3;subst e1 e3;obtain⟨aa,capp,hva,_,_,Lt⟩:=P8.fH iq;obtain⟨b,off,Me,LD,hc⟩:=Lt k _ hz;injection hva with e4 e5 e6;rw [<- e4]at Me;injection Me with Me;injection Me with e7 e8;subst e7 e8;have c0:=hc 0 _ rfl;have c1:=hc 1 _ rfl;have c2:=hc 2 _ rfl;have c3:=hc 3 _ rfl;have c4:=hc 4 _ rfl;rw [bR]at c0 c1 c2 c3 c4;rw [aI]at c0;obtain⟨hu,hx⟩:=HU.out k c (u,x) he hux;obtain⟨au,LB,hue,hcu1,hcu,_⟩:=id hu;obtain⟨ax,Mt,hxe,hcx1,hcx,_⟩:=id hx;simp only at hue hxe;subst hue hxe;obtain⟨hl31,hl32⟩:=HL3.out c (aN he);have Ng:=(an wr.heap.size wr).alloc (ag _) (.cells #[.int .i64 c.fn, .int .i64 c.pc, .slice au c.locals.length LB, .int .i64 c.base, .slice ax c.labels.length Mt] 124);have HUa:=V ((hu.below hbr).below Ng);have HXa:=V ((hx.below hbr).below Ng);have hxa:=hxr.below Ng hxr.lt;have hX:=eD.new wr #[.int .i64 c.fn, .int .i64 c.pc, .slice au c.locals.length LB, .int .i64 c.base, .slice ax c.labels.length Mt] 124;have HE:=V he;have HZZ:=V hz;have HUX:=V hux';have HOFR:=V P8;have PV:=V M7;have HC2:=V c2;have HC4:=V c4;have HG3:=V hg3;have HB:=V hBM;clear hu hx he hz hux hux' P8 M7 hBM Lt hc e2 e4 e5 e6 hg3;unfold maxLen at hcu hcx;go_wp2_with fail;obtain⟨X,hXX⟩:∃X,X=wr.heap.size:=⟨_,rfl⟩;rw [<- hXX]at hX⊢;have hX1:wr.heap.size <=X:=by omega
 clear hXX c0 c1 c2 c3 c4 x0 x1 x2;generalize wr.alloc (.cells #[.int .i64 c.fn, .int .i64 c.pc, .slice au c.locals.length LB, .int .i64 c.base, .slice ax c.labels.length Mt] 124)=wa at Ng hxa hX HUa HXa⊢;have hS:zw w.heap.size X (.slice (some ⟨g,0,none⟩) s.eg.length MP) (.slice au c.locals.length LB) (.slice ax c.labels.length Mt) wa:=⟨hxa.cell 1,hX.cell 2,hX.cell 4⟩;have HS:=V hS;have hgl:g < wa.heap.size:=by have:=Ng.size;omega
 have QH:=hX.lt;have hBl:=hxa.lt;have hgB:w.heap.size≠g:=by omega
 clear hS;refine ea (zw w.heap.size X (.slice (some ⟨g,0,none⟩) s.eg.length MP) (.slice au c.locals.length LB) (.slice ax c.labels.length Mt))
  (up 0 8 ((9,true)::(10,true)::(8,false)::(11,false)::(12,true)::(13,true)::(14,false)::(15,true)::(16,true)::(17,false)::[])) (by kernel_rfl) (by kernel_rfl) HS.out ?_
 clear hX hxa;iterate 10 (first | (apply sk rfl rfl;simp only [pt]) | (apply dV rfl rfl rfl;·(rintro w' ⟨t0,t1,t2⟩;go_wp2;exact⟨rfl,rfl,rfl⟩)))
 refine dZ rfl rfl ?_;go_wp2_with fail;refine(mP _ c.locals wa.drew HUa.out (by omega)).mono ?_;rintro y w5 ⟨v1,rfl,Og,hb5'⟩;have Mh:Below wa.heap.size wa w5:=fF hb5';have Og:dS 52 2 fD w5 wa.heap.size v1 c.locals:=Og;obtain⟨p1,q1,rfl,_,_,_⟩:=Og.fH fI;have M4:=V Og;clear hb5' Og;have hsa:=Ng.size;go_wp2_with fail;refine⟨HS.out.keeps (dU.dW (S:=fun _=>False) Mh) ⟨hBl,fun h=>h⟩ ⟨QH,fun h=>h⟩,?_⟩;refine dZ rfl rfl ?_;go_wp2_with fail;refine(B8 _ c.labels w5 (HXa.out.below Mh) (by omega)).mono ?_;rintro y w6 ⟨v2,rfl,L4,Ny⟩;have hsz5:=Mh.size;have hsz6:=Ny.size;have Og:=my (M4.out.below Ny) (base':=M) (fun g hg=>by have:=(ey M4.out hg).1;omega);have ho1':∀b,ez (.slice p1 c.locals.length q1) b ->b≠g:=fun b hb=>by have:=(ey M4.out hb).1;omega
 have ho2':∀b,ez v2 b ->b≠g:=fun b hb=>by have:=(ey L4 hb).1;omega
 have ho2'':=my L4 (base':=M) (fun g hg=>by have:=(ey L4 hg).1;omega);obtain⟨p2,q2,rfl,_,_,_⟩:=L4.fH lI;have hb56:=Mh.trans (Ny.mono (by omega));have PG:dU (fun _=>False) wr w6:=(dU.dW Ng).trans (dU.dW (S:=fun _=>False) hb56) (fun i h=> .inl h);have hS6:=HS.out.keeps (dU.dW (S:=fun _=>False) hb56) ⟨hBl,fun h=>h⟩ ⟨QH,fun h=>h⟩;have hof6:=HOFR.out.keeps PG (fun _ _ h=>h);have c2:w6.cell? ⟨g,k*5+2,none⟩=some (.slice au c.locals.length LB):=(PG.cell (p:=⟨g,k*5+2,none⟩) NC (fun h=>h)).trans HC2.out;have c4:w6.cell? ⟨g,k*5+4,none⟩=some (.slice ax c.labels.length Mt):=(PG.cell (p:=⟨g,k*5+4,none⟩) NC (fun h=>h)).trans HC4.out;have hg6:w6.heap[g]?=some (.cells cur 124):=(PG.block g NC (fun h=>h)).trans HG3.out;have z2:w6.frozen? ⟨g,k*5+2,none⟩=false:=cX w6 g _ cur _ hg6;have hgl6:g < w6.heap.size:=by omega
 have M4:=V Og;have HO1':=V ho1';have MX:=V ho2'';have HO2':=V ho2';have HOF6:=V hof6;have HK6:=V PG;clear Og ho1' L4 ho2' ho2'' hof6 PG Mh Ny hb56 Ng;go_wp2_with fail;refine⟨hS6,?_⟩;iterate 2 (first | (apply sk rfl rfl;simp only [pt]) | (apply dV rfl rfl rfl;·(rintro w' ⟨t0,t1,t2⟩;go_wp2;exact⟨rfl,rfl,rfl⟩)))
 refine dZ rfl rfl ?_;go_wp2_with fail;have hk67:=iQ w6 g (k*5+2) (.slice p1 c.locals.length q1);have hS7:=hS6.keeps hk67 ⟨by omega,fun h=>hgB h⟩ ⟨by omega,fun h=>by omega⟩;have hof7:=HOF6.out.set iq (i:=k) (j:=2) (u:= .slice p1 c.locals.length q1) (y:=(c,(.slice p1 c.locals.length q1, .slice ax c.labels.length Mt))) HZZ.out (by omega) rfl;have hg7:(w6.setCell ⟨g,k*5+2,none⟩ (.slice p1 c.locals.length q1)).heap[g]?=some (.cells (cur.setIfInBounds (k*5+2) (.slice p1 c.locals.length q1)) 124):=heap_setCell_same w6 g _ cur _ _ hg6;have hzz:((s.eg.zip PH).set k (c,(.slice p1 c.locals.length q1, .slice ax c.labels.length Mt)))[k]?=some (c,(.slice p1 c.locals.length q1, .slice ax c.labels.length Mt)):=by
  rw [List.getElem?_set_self (aG.1 HZZ.out).1]
 have c4':=hof7.cell iq (j:=4) hzz rfl;have Oq:=hof7.set iq (i:=k) (j:=4) (u:= .slice p2 c.labels.length q2) (y:=(c,(.slice p1 c.locals.length q1, .slice p2 c.labels.length q2))) hzz (by omega) rfl;rw [List.set_set,Cn _ _ _ _ _ HE.out]at Oq;generalize w6.setCell ⟨g,k*5+2,none⟩ (.slice p1 c.locals.length q1)=w7 at hk67 hS7 hg7 c4' Oq⊢;have z4:w7.frozen? ⟨g,k*5+4,none⟩=false:=cX w7 g _ _ _ hg7;have hk78:=iQ w7 g (k*5+4) (.slice p2 c.labels.length q2);have hs67:=hk67.size;have hS8:=hS7.keeps hk78 ⟨by omega,fun h=>hgB h⟩ ⟨by omega,fun h=>by omega⟩;have HOF8:=V Oq;clear Oq hof7 hzz c2 c4 z2 hg6 hg7;refine⟨hS7,?_⟩;iterate 2 (first | (apply sk rfl rfl;simp only [pt]) | (apply dV rfl rfl rfl;·(rintro w' ⟨t0,t1,t2⟩;go_wp2;exact⟨rfl,rfl,rfl⟩)))
 refine dZ rfl rfl ?_;go_wp2_with fail;refine⟨hS8,?_⟩;refine eF ?_;refine aA ?_;have hk68:=hk67.trans hk78 (fun i h=> .inl h);have hkr8:dU (ez (.slice (some ⟨g,0,none⟩) s.eg.length MP)) wr _:=(HK6.out.mono (fun i h=>h.elim)).trans hk68 (fun i h=> .inl (by subst h;rfl));generalize w7.setCell ⟨g,k*5+4,none⟩ (.slice p2 c.labels.length q2)=w8 at HOF8 hk68 hkr8⊢;clear hS8 hS7 hS6 z4 c4' hk67 hk78;go_wp2;refine HR.out _ _ ⟨PH.set k (.slice p1 c.locals.length q1, .slice p2 c.labels.length q2),k+1,rfl,by omega,PV.out.trans hkr8 (fun i h=> .inl h),by simpa using OK,HOF8.out,fun i f u hi hf hu=>?_,fun i hi=>?_⟩ ?_
 ·rcases bx i k with hik | hik
  ·rw [List.getElem?_set_ne (by omega)]at hu
   obtain⟨q1,q2⟩:=HOLD.out i f u hik hf hu;exact⟨q1.keeps hkr8 (fun b hb=>q1.ne HOFR.out (by decide) b hb),q2.keeps hkr8 (fun b hb=>q2.ne HOFR.out (by decide) b hb)⟩
  ·obtain rfl:i=k:=by omega
   rw [List.getElem?_set_self (by omega)]at hu;injection hu with hu;subst hu;rw [HE.out]at hf;injection hf with hf;subst hf;exact⟨mj M4.out hk68 (fun b hb=>HO1'.out b hb),mj MX.out hk68 (fun b hb=>HO2'.out b hb)⟩
 ·rw [List.getElem?_set_ne (by omega)]
  exact HNEW.out i (by omega)
 ·simp [intOf]
  omega
def mask (S:Nat ->Bool) (w:World):World:={w with heap:=w.heap.mapIdx fun i o=>if S i=true then .cells #[] 0 else o}
theorem gX (S:Nat ->Bool) (w:World):(mask S w).heap.size=w.heap.size:=by simp [mask]
theorem ja {S:Nat ->Bool} (w:World) {k:Nat} (h:S k=false):(mask S w).heap[k]?=w.heap[k]?:=by
 simp [mask,h]
theorem pg {S:Nat ->Bool} (w:World) {k:Nat} (h:S k=true):(mask S w).heap[k]?=(w.heap[k]?).map fun _=>Obj.cells #[] 0:=by
 simp [mask,h]
theorem fP {S:Nat ->Bool} {w:World} {b i:Nat} {v:Value} (h:(mask S w).cell? ⟨b,i,none⟩=some v):S b=false/\w.cell? ⟨b,i,none⟩=some v:=by
 cases hs:S b with
 | true=>
  exfalso;unfold World.cell? at h;rw [pg w hs]at h;cases hg:w.heap[b]? with
  | none=>rw [hg]at h;simp at h
  | some o=>rw [hg]at h;simp at h
 | false=>
  refine⟨rfl,?_⟩;unfold World.cell? at h⊢;rw [ja w hs]at h;exact h
theorem dU.mask {P:Nat ->Prop} {S:Nat ->Bool} {w w':World} (h:dU P w w') (hs:∀k,P k ->S k=true):Below (mask S w).heap.size (mask S w) (mask S w'):=by
 refine⟨h.os,h.tape,h.output,by rw [gX,gX];exact h.size,fun k hk=>?_⟩;rw [gX]at hk;cases hb:S k with
 | true=>
  rw [pg _ hb,pg _ hb,Array.getElem?_eq_getElem hk,Array.getElem?_eq_getElem (bo hk h.size)];rfl
 | false=>
  rw [ja _ hb,ja _ hb];exact h.block k hk (fun g=>by rw [hs k g]at hb;cases hb)
theorem A0 {S:Nat ->Bool} {w w':World} (h:Below w.heap.size w w'):Below (mask S w).heap.size (mask S w) (mask S w'):=
 (dU.dW (S:=fun _=>False) h).mask (fun _ h=>h.elim)
theorem ee.fK {α:Type} {k:Nat} {enc:α ->List Value} {S:Nat ->Bool} {w:World} {v:Value} {l:List α} (h:ee k enc (mask S w) v l):ee k enc w v l:=by
 obtain⟨a,cap,hv,h1,h2,h3⟩:=h;refine⟨a,cap,hv,h1,h2,fun i x hx=>?_⟩;obtain⟨b,off,ha,LD,hc⟩:=h3 i x hx;exact⟨b,off,ha,by rw [gX]at LD;exact LD,fun j u hu=>(fP (hc j u hu)).2⟩
theorem ef.fK {α β:Type} {k:Nat} {enc:α × β ->List Value} {inner:World ->α ->β ->Prop} {S:Nat ->Bool} {w:World} {v:Value} {l:List α} (h:ef k enc inner (mask S w) v l) (hi:∀x u,inner (mask S w) x u ->inner w x u):ef k enc inner w v l:=by
 obtain⟨us,h1,h2,h3⟩:=h;exact⟨us,h1,h2.fK,fun i x u hx hu=>hi x u (h3 i x u hx hu)⟩
theorem eG.fK {S:Nat ->Bool} {w:World} {v:Value} {l:List UInt8} (h:eG (mask S w) v l):eG w v l:=by
 obtain⟨a,cap,hv,h1,h2,h3⟩:=h;refine⟨a,cap,hv,h1,h2,fun i x hx=>?_⟩;obtain⟨b,off,ha,hc⟩:=h3 i x hx;exact⟨b,off,ha,(fP hc).2⟩
theorem dS.mask {α:Type} {t:TypeId} {k:Nat} {enc:α ->List Value} {S:Nat ->Bool} {w:World} {B:Nat} {v:Value} {l:List α} (h:dS t k enc w B v l) (hs:∀b,B <=b ->S b=false):dS t k enc (mask S w) B v l:=by
 obtain⟨hl,hv | ⟨g,cap,cur,hv,hb,hg,rest⟩⟩:=h
 ·exact⟨hl, .inl hv⟩
 ·exact⟨hl, .inr ⟨g,cap,cur,hv,hb,by rw [ja w (hs g hb)];exact hg,rest⟩⟩
theorem ed.mask {S:Nat ->Bool} {w:World} {B:Nat} {v:Value} {l:List UInt8} (h:ed w B v l) (hs:∀b,B <=b ->S b=false):ed (mask S w) B v l:=by
 obtain⟨hl,hv | ⟨g,cap,cur,hv,hb,hg,rest⟩⟩:=h
 ·exact⟨hl, .inl hv⟩
 ·exact⟨hl, .inr ⟨g,cap,cur,hv,hb,by rw [ja w (hs g hb)];exact hg,rest⟩⟩
theorem gD.fK {S:Nat ->Bool} {w:World} {x:eP} {u:Value} (h:gD (mask S w) x u):gD w x u:=⟨h.1.fK,h.2⟩
theorem gu.fK {S:Nat ->Bool} {w:World} {v:Value} {l:List eP} (h:gu (mask S w) v l):gu w v l:=ef.fK h (fun _ _ h=>h.fK)
theorem gG.fK {S:Nat ->Bool} {w:World} {x:gw} {u:Value × Value} (h:gG (mask S w) x u):gG w x u:=⟨⟨h.1.1.fK,h.1.2.fK⟩,h.2⟩
theorem gQ.fK {S:Nat ->Bool} {w:World} {x:jh} {u:Value} (h:gQ (mask S w) x u):gQ w x u:=⟨h.1.fK,h.2⟩
theorem gE.fK {S:Nat ->Bool} {w:World} {x:hI} {u:Value × Value} (h:gE (mask S w) x u):gE w x u:=⟨⟨h.1.1.fK,h.1.2.fK⟩,h.2⟩
theorem gb.fK {S:Nat ->Bool} {w:World} {x:gR} {u:Value} (h:gb (mask S w) x u):gb w x u:=⟨h.1.fK,h.2⟩
theorem eo.fK {S:Nat ->Bool} {w:World} {u:eE} {m:eu} (h:eo (mask S w) u m):eo w u m:=by
 obtain⟨h1,h2,h3,h4,h5,h6,h7,h8,h9⟩:=h;exact⟨ef.fK h1 (fun _ _ h=>h.fK),h2.fK,h3.fK,h4.fK,h5.fK,ef.fK h6 (fun _ _ h=>h.fK),ef.fK h7 (fun _ _ h=>h.fK),ef.fK h8 (fun _ _ h=>h.fK),h9⟩
section
def Ext (w w':World):Prop:=(∀a v,w.cell? a=some v ->w'.cell? a=some v)/\w.heap.size <=w'.heap.size
theorem Ext.trans {a b c:World} (h:Ext a b) (k:Ext b c):Ext a c:=⟨fun x v e=>k.1 x v (h.1 x v e),aQ h.2 k.2⟩
theorem Ext.dW {w w':World} (h:Below w.heap.size w w'):Ext w w':=⟨fun a v e=>by rw [h.cell (aO w a e)];exact e,h.size⟩
theorem iC {P:Nat ->Prop} {S S':Nat ->Bool} {w w':World} (h:dU P w w') (hP:∀k,k < w.heap.size ->P k ->S k=true) (hS:∀k,k < w.heap.size ->S' k=true ->S k=true):Ext (mask S w) (mask S' w'):=by
 refine⟨fun a v e=>?_,by rw [gX,gX];exact h.size⟩;have LD:a.block < w.heap.size:=by
  have:=aO (mask S w) a e
  rwa [gX]at this
 have hb:S a.block=false:=by
  cases hs:S a.block with
  | false=>rfl
  | true=>
   exfalso;unfold World.cell? at e;rw [pg w hs]at e;cases hg:w.heap[a.block]? with
   | none=>rw [hg]at e;simp at e
   | some o=>rw [hg]at e;simp at e
 have LP:S' a.block=false:=by
  cases hs:S' a.block with
  | false=>rfl
  | true=>rw [hS _ LD hs]at hb;cases hb
 have h1:(mask S w).cell? a=w.cell? a:=aX (ja w hb);have h2:(mask S' w').cell? a=w'.cell? a:=aX (ja w' LP);have h3:w'.cell? a=w.cell? a:=aX (h.block _ LD (fun g=>by rw [hP _ LD g]at hb;cases hb));rw [h1]at e;rw [h2,h3];exact e
theorem sc {P:Nat ->Prop} {S:Nat ->Bool} {w w':World} (h:dU P w w') (hP:∀k,k < w.heap.size ->P k ->S k=true):Ext (mask S w) w':=by
 refine⟨fun a v e=>?_,by rw [gX];exact h.size⟩;have LD:a.block < w.heap.size:=by
  have:=aO (mask S w) a e
  rwa [gX]at this
 have hb:S a.block=false:=by
  cases hs:S a.block with
  | false=>rfl
  | true=>
   exfalso;unfold World.cell? at e;rw [pg w hs]at e;cases hg:w.heap[a.block]? with
   | none=>rw [hg]at e;simp at e
   | some o=>rw [hg]at e;simp at e
 have h1:(mask S w).cell? a=w.cell? a:=aX (ja w hb);have h3:w'.cell? a=w.cell? a:=aX (h.block _ LD (fun g=>by rw [hP _ LD g]at hb;cases hb));rw [h1]at e;rw [h3];exact e
theorem ee.ext {α:Type} {k:Nat} {enc:α ->List Value} {w w':World} {v:Value} {l:List α} (h:ee k enc w v l) (he:Ext w w'):ee k enc w' v l:=by
 obtain⟨a,cap,hv,h1,h2,h3⟩:=h;refine⟨a,cap,hv,h1,h2,fun i x hx=>?_⟩;obtain⟨b,off,ha,LD,hc⟩:=h3 i x hx;exact⟨b,off,ha,bo LD he.2,fun j u hu=>he.1 _ _ (hc j u hu)⟩
theorem eG.ext {w w':World} {v:Value} {l:List UInt8} (h:eG w v l) (he:Ext w w'):eG w' v l:=by
 obtain⟨a,cap,hv,h1,h2,h3⟩:=h;refine⟨a,cap,hv,h1,h2,fun i x hx=>?_⟩;obtain⟨b,off,ha,hc⟩:=h3 i x hx;exact⟨b,off,ha,he.1 _ _ hc⟩
theorem ef.ext {α β:Type} {k:Nat} {enc:α × β ->List Value} {inner:World ->α ->β ->Prop} {w w':World} {v:Value} {l:List α} (h:ef k enc inner w v l) (he:Ext w w') (hi:∀x u,inner w x u ->inner w' x u):ef k enc inner w' v l:=by
 obtain⟨us,h1,h2,h3⟩:=h;exact⟨us,h1,h2.ext he,fun i x u hx hu=>hi x u (h3 i x u hx hu)⟩
theorem gD.ext {w w':World} {x:eP} {u:Value} (h:gD w x u) (he:Ext w w'):gD w' x u:=⟨h.1.ext he,h.2⟩
theorem gu.ext {w w':World} {v:Value} {l:List eP} (h:gu w v l) (he:Ext w w'):gu w' v l:=ef.ext h he (fun _ _ h=>h.ext he)
theorem gG.ext {w w':World} {x:gw} {u:Value × Value} (h:gG w x u) (he:Ext w w'):gG w' x u:=⟨⟨h.1.1.ext he,h.1.2.ext he⟩,h.2⟩
theorem gQ.ext {w w':World} {x:jh} {u:Value} (h:gQ w x u) (he:Ext w w'):gQ w' x u:=⟨h.1.ext he,h.2⟩
theorem gE.ext {w w':World} {x:hI} {u:Value × Value} (h:gE w x u) (he:Ext w w'):gE w' x u:=⟨⟨h.1.1.ext he,h.1.2.ext he⟩,h.2⟩
theorem gb.ext {w w':World} {x:gR} {u:Value} (h:gb w x u) (he:Ext w w'):gb w' x u:=⟨h.1.ext he,h.2⟩
theorem eo.ext {w w':World} {u:eE} {m:eu} (h:eo w u m) (he:Ext w w'):eo w' u m:=by
 obtain⟨h1,h2,h3,h4,h5,h6,h7,h8,h9⟩:=h;exact⟨ef.ext h1 he (fun _ _ h=>h.ext he),h2.ext he,h3.ext he,h4.ext he,h5.ext he,ef.ext h6 he (fun _ _ h=>h.ext he),ef.ext h7 he (fun _ _ h=>h.ext he),ef.ext h8 he (fun _ _ h=>h.ext he),h9⟩
def jO (B:Nat):Nat ->Bool:=fun k=>decide (k < B)
def Dg (B:Nat) (v:Value):Nat ->Bool:=fun k=>decide (k < B) || decide (v.ownBlock=some k)
theorem lO {B k:Nat}:jO B k=true↔k < B:=by simp [jO]
theorem mr {B k:Nat} {v:Value}:Dg B v k=true↔k < B\/ez v k:=by simp [Dg,ez]
theorem ni {P:Nat ->Prop} {B B':Nat} {w w':World} (h:dU P w w') (hP:∀k,P k ->k < B\/w.heap.size <=k) (hB:B' <=B\/w.heap.size <=B):Ext (mask (jO B) w) (mask (jO B') w'):=
 iC h (fun k hk hp=>lO.2 ((hP k hp).elim id (fun g=>by omega))) (fun k hk hp=>lO.2 (by have:=lO.1 hp;omega))
theorem Im {B:Nat} {w w':World} (h:dU (fun k=>k < B) w w'):Ext (mask (jO B) w) w':=sc h (fun _ _ hp=>lO.2 hp)
theorem GK (B:Nat) (w:World):Ext (mask (jO B) w) w:=Im (dU.refl _ _)
theorem tW {B B':Nat} (w:World) (h:B' <=B):Ext (mask (jO B) w) (mask (jO B') w):=ni (P:=fun _=>False) (dU.refl _ _) (fun _ h=>h.elim) (.inl h)
theorem iY {α:Type} {t:TypeId} {k:Nat} {enc:α ->List Value} {w:World} {B:Nat} {v:Value} {l:List α} (hk:∀x,(enc x).length=k) (h:dS t k enc w B v l):ee k enc (mask (jO B) w) v l:=
 (h.mask (S:=jO B) (fun b hb=>by simp [jO];exact hb)).fH hk
theorem xK {w:World} {B:Nat} {v:Value} {l:List UInt8} (h:ed w B v l):eG (mask (jO B) w) v l:=
 (h.mask (S:=jO B) (fun b hb=>by simp [jO];exact hb)).gl
section
variable {α β:Type} {t:TypeId} {k:Nat} {enc:α × β ->List Value} {inner:World ->α ->β ->Prop}
def eZ (t:TypeId) (k:Nat) (enc:α × β ->List Value) (inner:World ->α ->β ->Prop) (w:World) (B:Nat) (v:Value) (l:List α):Prop:=
 ∃us:List β,us.length=l.length/\dS t k enc w B v (l.zip us)/\∀(i:Nat) (x:α) (u:β),l[i]?=some x ->us[i]?=some u ->inner (mask (Dg B v) w) x u
theorem eZ.nil (w:World) (B:Nat):eZ t k enc inner w B (.slice none 0 0) []:=⟨[],rfl,dS.nil _ _,by simp⟩
theorem eZ.lt {w:World} {B:Nat} {v:Value} {l:List α} (h:eZ t k enc inner w B v l) {i:Nat} (hi:ez v i):B <=i/\i < w.heap.size:=by
 obtain⟨us,_,h,_⟩:=h;exact ey h hi
theorem eZ.low (hk:∀x,(enc x).length=k) (hx:∀w w' x u,Ext w w' ->inner w x u ->inner w' x u) {w:World} {B:Nat} {v:Value} {l:List α} (h:eZ t k enc inner w B v l):ef k enc inner (mask (jO B) w) v l:=by
 obtain⟨us,h1,h2,h3⟩:=h;refine⟨us,h1,iY hk h2,fun i x u a b=>hx _ _ x u (iC (P:=fun _=>False) (dU.refl _ _) (fun _ _ h=>h.elim) (fun k _ h=>?_)) (h3 i x u a b)⟩;exact mr.2 (.inl (lO.1 h))
theorem eZ.keeps (hx:∀w w' x u,Ext w w' ->inner w x u ->inner w' x u) {w w':World} {B:Nat} {v:Value} {l:List α} {P:Nat ->Prop} (h:eZ t k enc inner w B v l) (hk:dU P w w') (hP:∀i,P i ->i < B\/w.heap.size <=i):eZ t k enc inner w' B v l:=by
 obtain⟨us,h1,h2,h3⟩:=h;refine⟨us,h1,h2.keeps hk (fun i hi hp=>?_),fun i x u a b=>hx _ _ x u (iC hk (fun k LD hp=>?_) (fun k _ h=>h)) (h3 i x u a b)⟩
 ·have:=ey h2 hi
  rcases hP i hp with g | g <;>omega
 ·rcases hP k hp with g | g
  ·exact mr.2 (.inl g)
  ·omega
theorem eZ.app (hx:∀w w' x u,Ext w w' ->inner w x u ->inner w' x u) {w1 w w':World} {B:Nat} {v v':Value} {l:List α} {us:List β} {x:α} {u:β} (h1:us.length=l.length)
  (h3:∀(i:Nat) (x:α) (u:β),l[i]?=some x ->us[i]?=some u ->inner (mask (Dg B v) w) x u) (MC:dS t k enc w' B v' (l.zip us++[(x,u)])) (hk:dU (ez v) w w') (hs:eB w v v')
  (hB:B <=w1.heap.size) (hv:∀i,ez v i ->i < w1.heap.size) (hu:inner (mask (jO w1.heap.size) w) x u):eZ t k enc inner w' B v' (l++[x]):=by
 have hS:∀k,k < w.heap.size ->Dg B v' k=true ->Dg B v k=true:=fun k LD h=>by
  rcases mr.1 h with g | g
  ·exact mr.2 (.inl g)
  ·rcases hs k g with g | g
   ·exact mr.2 (.inr g)
   ·omega
 refine⟨us++[u],by simp [h1],?_,fun i y z hy hz=>?_⟩
 ·rw [di h1.symm]
  exact MC
 ·rcases Nat.lt_trichotomy i l.length with g | g | g
  ·rw [bE g]at hy
   rw [bE (by omega)]at hz;exact hx _ _ y z (iC hk (fun k _ hp=>mr.2 (.inr hp)) hS) (h3 i y z hy hz)
  ·subst g
   rw [bA (ag _)]at hy;rw [bA (by omega)]at hz;simp [h1]at hy hz;subst hy hz;refine hx _ _ _ _ (iC hk (fun k _ hp=>lO.2 (hv k hp)) (fun k LD hp=>lO.2 ?_)) hu;rcases mr.1 hp with g | g
   ·omega
   ·rcases hs k g with g | g
    ·exact hv k g
    ·omega
  ·rw [dj (by simp;omega)]at hy
   cases hy
end
end
abbrev gA:=Option (List UInt8)
def gA.len:gA ->Nat
 | none=>0
 | some l=>l.length+1
def et {α:Type} (get:iV α) (st:gA):gA:=(st.bind get).map (·.2)
def gO {α:Type} (get:iV α) (st:gA) (x:α):Prop:=∀y,st.bind get=some y ->x=y.1
theorem mo {α:Type} (get:iV α) (x:α):gO get none x:=fun _ h=>by simp at h
def jT {α β:Type} (a:iV α) (b:iV β):iV (α × β):=fun l=>(a l).bind fun x=>(b x.2).bind fun y=>some ((x.1,y.1),y.2)
def gK {α β:Type} (f:α ->β) (a:iV α):iV β:=fun l=>(a l).map fun x=>(f x.1,x.2)
theorem gI {α β:Type} (a:iV α) (b:iV β) (st:gA):et (jT a b) st=et b (et a st):=by
 cases st with
 | none=>rfl
 | some l=>
  simp only [et,jT,ao];cases h:a l with
  | none=>rfl
  | some x=>cases h2:b x.2 <;>simp [h2]
theorem ib {α β:Type} {a:iV α} {b:iV β} {st:gA} {x:α} {y:β} (h1:gO a st x) (h2:gO b (et a st) y):gO (jT a b) st (x,y):=by
 intro z hz;cases st with
 | none=>simp at hz
 | some l=>
  simp only [jT,ao]at hz;cases h:a l with
  | none=>rw [h]at hz;simp at hz
  | some x'=>
   rw [h]at hz;simp only [ao]at hz;cases hb:b x'.2 with
   | none=>rw [hb]at hz;simp at hz
   | some y'=>
    rw [hb]at hz;simp only [ao,aS]at hz;have e1:=h1 x' (by simpa using h);have e2:=h2 y' (by simp [et,h,hb]);rw [<- hz,e1,e2]
theorem fh {α β:Type} (f:α ->β) (a:iV α) (st:gA):et (gK f a) st=et a st:=by
 cases st with
 | none=>rfl
 | some l=>
  simp only [et,gK,ao];cases a l <;>rfl
theorem fo {α β:Type} {f:α ->β} {a:iV α} {st:gA} {x:α} (h:gO a st x):gO (gK f a) st (f x):=by
 intro z hz;cases st with
 | none=>simp at hz
 | some l=>
  simp only [gK,ao]at hz;cases ha:a l with
  | none=>rw [ha]at hz;simp at hz
  | some y=>
   rw [ha]at hz;simp only [bq,aS]at hz;rw [<- hz,h y (by simpa using ha)]
def jg {α:Type} (get:iV α):Prop:=∀l y,get l=some y ->y.2.length < l.length
def oI {α:Type} (get:iV α):Prop:=∀l y,get l=some y ->y.2.length <=l.length
theorem jg.lJ {α:Type} {get:iV α} (h:jg get):oI get:=fun l y hy=>Nat.le_of_lt (h l y hy)
theorem jg.seq {α β:Type} {a:iV α} {b:iV β} (ha:jg a) (hb:oI b):jg (jT a b):=by
 intro l y hy;simp only [jT]at hy;cases h:a l with
 | none=>rw [h]at hy;simp at hy
 | some x=>
  rw [h]at hy;simp only [ao]at hy;cases h2:b x.2 with
  | none=>rw [h2]at hy;simp at hy
  | some z=>
   rw [h2]at hy;simp only [ao,aS]at hy;subst hy;exact Nat.lt_of_le_of_lt (hb _ _ h2) (ha _ _ h)
theorem jg.map {α β:Type} {f:α ->β} {a:iV α} (ha:jg a):jg (gK f a):=by
 intro l y hy;simp only [gK]at hy;cases h:a l with
 | none=>rw [h]at hy;simp at hy
 | some x=>
  rw [h]at hy;simp only [bq,aS]at hy;subst hy;exact ha _ _ h
theorem oI.len {α:Type} {get:iV α} (h:oI get) (st:gA):(et get st).len <=st.len:=by
 cases st with
 | none=>simp [et,gA.len]
 | some l=>
  simp only [et,ao];cases hg:get l with
  | none=>simp [gA.len]
  | some y=>have:=h l y hg;simp only [bq,gA.len];omega
theorem jg.len {α:Type} {get:iV α} (h:jg get) (l:List UInt8):(et get (some l)).len < gA.len (some l):=by
 simp only [et,ao];cases hg:get l with
 | none=>simp [gA.len]
 | some y=>have:=h l y hg;simp only [bq,gA.len];omega
theorem kK:jg fX:=by
 intro l y hy;unfold fX at hy;split at hy
 ·rename_i h
  simp only [aS]at hy;subst hy;unfold gZ at h;split at h
  ·rename_i h1
   exact absurd h h1
  ·rename_i h1
   have h2:=dz.1 h1;obtain⟨_,_,k1,k2,_⟩:=iL h2;have h3:(gZ 32 l).2.1=(eW 32 l).1:=by
    unfold gZ;rw [az h1];split
    ·rfl
    ·rename_i h4
     rw [az h4]at h;cases h
   simp only [bg,h3];omega
 ·cases hy
theorem km:jg eV:=by
 intro l y hy;cases l with
 | nil=>cases hy
 | cons c l=>simp only [eV,aS]at hy;subst hy;simp
theorem kZ:jg gz:=by
 intro l y hy;unfold gz at hy;split at hy
 ·simp only [aS]at hy;subst hy;simp
 ·simp only [aS]at hy;subst hy;simp
 ·cases hy
theorem Al {α:Type} {get:iV α} (h:jg get):∀n,oI (rY get n)
 | 0=>fun l y hy=>by simp only [rY,aS]at hy;subst hy;exact ag _
 | n+1=>fun l y hy=>by
  simp only [rY]at hy;cases hg:get l with
  | none=>rw [hg]at hy;simp at hy
  | some x=>
   rw [hg]at hy;simp only [ao]at hy;cases hr:rY get n x.2 with
   | none=>rw [hr]at hy;simp at hy
   | some z=>
    rw [hr]at hy;simp only [ao,aS]at hy;subst hy;exact aQ (show z.2.length <=x.2.length from Al h n _ _ hr) (Nat.le_of_lt (h _ _ hg))
theorem gW {α:Type} {get:iV α} (h:jg get):jg (fg get):=by
 intro l y hy;simp only [fg]at hy;cases hg:fX l with
 | none=>rw [hg]at hy;simp at hy
 | some x=>
  rw [hg]at hy;simp only [ao]at hy;exact Nat.lt_of_le_of_lt (Al h _ _ _ hy) (kK _ _ hg)
theorem uI:pe=gK (fun x=>⟨x.2.1,x.2.2⟩) (jT eV (jT (fg gz) (fg gz))):=by
 funext l
 simp only [pe,gK,jT];cases h1:eV l with
 | none=>rfl
 | some c=>
  simp only [ao];cases h2:fg gz c.2 with
  | none=>rfl
  | some p=>
   simp only [ao];cases fg gz p.2 <;>rfl
theorem yd:ua=gK (fun x=>⟨x.1,x.2.1,x.2.2.2⟩) (jT jm (jT jm (jT eV vz))):=by
 funext l
 simp only [ua,gK,jT];cases h1:jm l with
 | none=>rfl
 | some a=>
  simp only [ao];cases h2:jm a.2 with
  | none=>rfl
  | some b=>
   simp only [ao];cases h3:eV b.2 with
   | none=>rfl
   | some c=>
    simp only [ao];cases vz c.2 <;>rfl
theorem tJ:oT=gK (fun x=>⟨x.2.1 !=0,x.2.2⟩) (jT gz (jT eV gy)):=by
 funext l
 simp only [oT,gK,jT];cases h1:gz l with
 | none=>rfl
 | some a=>
  simp only [ao];cases h2:eV a.2 with
  | none=>rfl
  | some b=>
   simp only [ao];cases gy b.2 <;>rfl
theorem yc:uw=gK (fun x=>⟨x.1,x.2.2⟩) (jT jm (jT eV vz)):=by
 funext l
 simp only [uw,gK,jT];cases h1:jm l with
 | none=>rfl
 | some a=>
  simp only [ao];cases h2:eV a.2 with
  | none=>rfl
  | some b=>
   simp only [ao];cases vz b.2 <;>rfl
theorem pr:pd=gK (fun x=>⟨x.1,x.2⟩) (jT iX (fg vz)):=by
 funext l
 simp only [pd,gK,jT];cases h1:iX l with
 | none=>rfl
 | some a=>
  simp only [ao];cases fg vz a.2 <;>rfl
theorem yp:uk=gK (fun x=>⟨x.1,x.2⟩) (jT iX mb):=by
 funext l
 simp only [uk,gK,jT];cases h1:iX l with
 | none=>rfl
 | some a=>
  simp only [ao];cases mb a.2 <;>rfl
theorem qC:vz=gK (fun n:Nat=>(n:Int)) fX:=by
 funext l
 simp only [vz,gK];cases fX l <;>rfl
theorem uh:jm=gK bs mb:=by
 funext l
 simp only [jm,gK];cases mb l <;>rfl
theorem sg:iX=gK (fun x=>x.2.n) (jT eV gy):=by
 funext l
 simp only [iX,gK,jT];cases h1:eV l with
 | none=>rfl
 | some a=>
  simp only [ao];cases gy a.2 <;>rfl
theorem se:kD=gK (fun x=>x.2) (jT eV fT):=by
 funext l
 simp only [kD,gK,jT];cases h1:eV l with
 | none=>rfl
 | some a=>
  simp only [ao];cases fT a.2 <;>rfl
structure IR where
 pos:Nat
 err:Int
def IR.rest (L:List UInt8) (s:IR):gA:=if s.err=0 then some (L.drop s.pos)else none
def IR.byte (L:List UInt8) (s:IR):Nat × IR:=
 if s.err=0 then(match L[s.pos]? with | some c=>(c.toNat,⟨s.pos+1,0⟩) | none=>(0,⟨s.pos,2⟩))else(0,s)
def IR.jK (L:List UInt8) (lim:Nat) (s:IR):Nat × IR:=
 if s.err=0 then(if(gZ 32 (L.drop s.pos)).2.2=0 then(if lim < (gZ 32 (L.drop s.pos)).1 then(0,⟨s.pos,1⟩)else((gZ 32 (L.drop s.pos)).1,⟨s.pos+(gZ 32 (L.drop s.pos)).2.1,0⟩))else(0,⟨s.pos,(gZ 32 (L.drop s.pos)).2.2⟩))else(0,s)
def IR.qk (L:List UInt8) (bits:Int) (s:IR):Int × IR:=((jb bits (L.drop s.pos)).1,⟨s.pos+(jb bits (L.drop s.pos)).2.1,(jb bits (L.drop s.pos)).2.2⟩)
def IR.zero (L:List UInt8) (s:IR):IR:=if(s.byte L).1=0 then(s.byte L).2 else⟨(s.byte L).2.pos,1⟩
def IR.kind (L:List UInt8) (s:IR):Nat × IR:=
 if(s.byte L).1=64 then(0,(s.byte L).2)else if(s.byte L).1=127 then(1,(s.byte L).2)else if(s.byte L).1=126 then(2,(s.byte L).2)
 else(0,if(s.byte L).2.err=0 then⟨(s.byte L).2.pos,1⟩else(s.byte L).2)
def IR.ok (L:List UInt8) (s:IR):Prop:=s.pos <=L.length/\0 <=s.err/\s.err <=12
theorem IR.wR (L:List UInt8) (s:IR):(s.byte L).2.rest L=et eV (s.rest L):=by
 unfold IR.byte IR.rest;by_cases h:s.err=0
 ·simp only [h,cO]
  cases hc:L[s.pos]? with
  | none=>
   have:L.drop s.pos=[]:=by rw [List.drop_eq_nil_iff];exact List.getElem?_eq_none_iff.1 hc
   simp [this,et,eV]
  | some c=>
   obtain⟨LD,rfl⟩:=aG.1 hc;rw [cq LD];rfl
 ·simp [h,et]
theorem IR.zV (L:List UInt8) (s:IR):∀y,(s.rest L).bind eV=some y ->(s.byte L).1=y.1.toNat:=by
 unfold IR.byte IR.rest;intro y hy;by_cases h:s.err=0
 ·simp only [h,cO]at hy⊢
  cases hc:L[s.pos]? with
  | none=>
   have:L.drop s.pos=[]:=by rw [List.drop_eq_nil_iff];exact List.getElem?_eq_none_iff.1 hc
   rw [this]at hy;simp [eV]at hy
  | some c=>
   obtain⟨LD,rfl⟩:=aG.1 hc;rw [cq LD]at hy;simp only [ao,eV,aS]at hy;rw [<- hy]
 ·simp [h]at hy
theorem IR.xU {L:List UInt8} {s:IR} (h:s.ok L):(s.byte L).2.ok L:=by
 obtain⟨h1,h2,h3⟩:=h;unfold IR.byte;split
 ·split
  ·rename_i c hc
   have:=(aG.1 hc).1;exact⟨by simp only;omega,by simp,by simp⟩
  ·exact⟨h1,by simp,by simp⟩
 ·exact⟨h1,h2,h3⟩
theorem Gp (bits:Int) (l:List UInt8):0 <=(gZ bits l).2.2/\(gZ bits l).2.2 <=12:=by
 have hl:0 <=(eW bits l).2/\(eW bits l).2 <=12:=by
  unfold eW
  repeat' split
  all_goals simp
 unfold gZ;split
 ·exact hl
 ·split <;>simp
theorem FC (bits:Int) (l:List UInt8):0 <=(jb bits l).2.2/\(jb bits l).2.2 <=12:=by
 have hl:0 <=(eW bits l).2/\(eW bits l).2 <=12:=by
  unfold eW
  repeat' split
  all_goals simp
 unfold jb;split
 ·exact hl
 ·split <;>simp
theorem xP (bits:Int) (l:List UInt8):(gZ bits l).2.1 <=l.length:=by
 unfold gZ;split
 ·simp
 ·rename_i h
  obtain⟨_,_,k1,k2,_⟩:=iL (dz.1 h);split
  ·simp only;omega
  ·simp
theorem Cw (bits:Int) (l:List UInt8):(jb bits l).2.1 <=l.length:=by
 unfold jb;split
 ·simp
 ·rename_i h
  obtain⟨_,_,k1,k2,_⟩:=iL (dz.1 h);split
  ·simp only;omega
  ·simp
theorem IR.rD (L:List UInt8) (lim:Nat) (s:IR):(s.jK L lim).2.rest L=et (kO lim) (s.rest L):=by
 unfold IR.jK IR.rest;by_cases h:s.err=0
 ·simp only [h,cO]
  by_cases h1:(gZ 32 (L.drop s.pos)).2.2=0
  ·simp only [h1,cO]
   by_cases h2:lim < (gZ 32 (L.drop s.pos)).1
   ·rw [aD h2]
    simp [et,kO,h1,Nat.not_le.2 h2]
   ·rw [az h2]
    simp [et,kO,h1,Nat.not_lt.1 h2,List.drop_drop]
  ·simp only [h1,dD]
   simp [et,kO,h1]
 ·simp [h,et]
theorem IR.te (L:List UInt8) (lim:Nat) (s:IR):gO (kO lim) (s.rest L) (s.jK L lim).1:=by
 unfold IR.jK IR.rest;intro y hy;by_cases h:s.err=0
 ·simp only [h,cO]at hy⊢
  simp only [ao,kO]at hy;split at hy
  ·rename_i h1
   simp only [h1.1,cO,az (Nat.not_lt.2 h1.2)];simp only [aS]at hy;rw [<- hy]
  ·cases hy
 ·simp [h]at hy
theorem IR.JR {L:List UInt8} {lim:Nat} {s:IR} (h:s.ok L):(s.jK L lim).2.ok L:=by
 obtain⟨h1,h2,h3⟩:=h;have e1:=Gp 32 (L.drop s.pos);have e2:=xP 32 (L.drop s.pos);rw [bg]at e2;unfold IR.jK;split
 ·split
  ·split
   ·exact⟨h1,by simp,by simp⟩
   ·exact⟨by simp only;omega,by simp,by simp⟩
  ·exact⟨h1,e1⟩
 ·exact⟨h1,h2,h3⟩
theorem IR.Ba (L:List UInt8) (lim:Nat) (s:IR):(s.jK L lim).1 <=lim:=by
 unfold IR.jK;split
 ·split
  ·split
   ·simp
   ·rename_i h;exact Nat.not_lt.1 h
  ·simp
 ·simp
theorem IR.zJ (L:List UInt8) (bits:Int) (s:IR) (h:s.err=0):(s.qk L bits).2.rest L=et (BK bits) (s.rest L):=by
 unfold IR.qk IR.rest;simp only [h,cO];by_cases h1:(jb bits (L.drop s.pos)).2.2=0
 ·simp [h1,et,BK,List.drop_drop]
 ·simp [h1,et,BK]
theorem IR.Co (L:List UInt8) (bits:Int) (s:IR):gO (BK bits) (s.rest L) (s.qk L bits).1:=by
 unfold IR.qk IR.rest;intro y hy;split at hy
 ·simp only [ao,BK]at hy
  split at hy
  ·simp only [aS]at hy
   rw [<- hy]
  ·cases hy
 ·simp at hy
theorem IR.Jq {L:List UInt8} {bits:Int} {s:IR} (h:s.ok L):(s.qk L bits).2.ok L:=by
 obtain⟨h1,h2,h3⟩:=h;have e1:=FC bits (L.drop s.pos);have e2:=Cw bits (L.drop s.pos);rw [bg]at e2;exact⟨by simp only [IR.qk];omega,e1⟩
theorem Gk (l:List UInt8):o8 l=(eV l).bind fun c=>if c.1.toNat=0 then some c.2 else none:=by
 cases l with
 | nil=>rfl
 | cons c l=>
  simp only [eV,ao];by_cases h:c=0
  ·subst h
   rfl
  ·have:c.toNat≠0:=fun g=>h (du.1 (by simpa using g))
   rw [az this];unfold o8;split
   ·rename_i heq
    injection heq with e1 e2;exact absurd e1 h
   ·rfl
theorem IR.wM (L:List UInt8) (s:IR):(s.zero L).rest L=(s.rest L).bind o8:=by
 have h1:=IR.wR L s;have h2:=IR.zV L s;have hz:(s.rest L).bind o8=((s.rest L).bind eV).bind fun c=>if c.1.toNat=0 then some c.2 else none:=by
  cases s.rest L with
  | none=>rfl
  | some l=>simp only [ao,Gk]
 rw [hz];unfold et at h1;unfold IR.zero;cases hb:(s.rest L).bind eV with
 | none=>
  rw [hb]at h1;simp only [Option.map_none]at h1;simp only [Option.bind_none];split
  ·exact h1
  ·simp [IR.rest]
 | some y=>
  rw [hb]at h1;have e:=h2 y hb;rw [e];simp only [bq]at h1;simp only [ao];split
  ·exact h1
  ·simp [IR.rest]
theorem IR.II {L:List UInt8} {s:IR} (h:s.ok L):(s.zero L).ok L:=by
 have:=IR.xU h;unfold IR.zero;split
 ·exact this
 ·exact⟨this.1,by simp,by simp⟩
theorem Ge (l:List UInt8):sI l=(eV l).bind fun c=>if c.1.toNat=64 then some (0,c.2)else if c.1.toNat=127 then some (1,c.2)else if c.1.toNat=126 then some (2,c.2)else none:=by
 cases l with
 | nil=>rfl
 | cons c l=>
  simp only [eV,ao];have key:∀k:UInt8,c.toNat=k.toNat ->c=k:=fun k h=>du.1 h;unfold sI;split
  ·rename_i heq;injection heq with e1 e2;subst e1 e2;rfl
  ·rename_i heq;injection heq with e1 e2;subst e1 e2;rfl
  ·rename_i heq;injection heq with e1 e2;subst e1 e2;rfl
  ·rename_i h1 h2 h3
   rw [az (fun g=>h1 l (by rw [key 0x40 g])),az (fun g=>h2 l (by rw [key 0x7f g])),az (fun g=>h3 l (by rw [key 0x7e g]))]
theorem IR.D6 (L:List UInt8) (s:IR):(s.kind L).2.rest L=et sI (s.rest L)/\∀y,(s.rest L).bind sI=some y ->((s.kind L).1:Int)=y.1:=by
 have h1:=IR.wR L s;have h2:=IR.zV L s;have hz:(s.rest L).bind sI=((s.rest L).bind eV).bind fun c=>if c.1.toNat=64 then some (0,c.2)else if c.1.toNat=127 then some (1,c.2)else if c.1.toNat=126 then some (2,c.2)else none:=by
  cases s.rest L with
  | none=>rfl
  | some l=>simp only [ao,Ge]
 unfold et at h1⊢;rw [hz];unfold IR.kind;cases hb:(s.rest L).bind eV with
 | none=>
  rw [hb]at h1;simp only [Option.map_none]at h1;simp only [Option.bind_none,Option.map_none];have he:¬ (s.byte L).2.err=0:=fun g=>by rw [IR.rest,aD g]at h1;cases h1
  refine⟨?_,fun y hy=>by cases hy⟩;split
  ·exact h1
  ·split
   ·exact h1
   ·split
    ·exact h1
    ·simp only
     exact h1
 | some y=>
  rw [hb]at h1;have e:=h2 y hb;rw [e];simp only [bq]at h1;simp only [ao];split
  ·exact⟨h1,fun z hz=>by injection hz with hz;rw [<- hz];rfl⟩
  ·split
   ·exact⟨h1,fun z hz=>by injection hz with hz;rw [<- hz];rfl⟩
   ·split
    ·exact⟨h1,fun z hz=>by injection hz with hz;rw [<- hz];rfl⟩
    ·refine⟨?_,fun z hz=>by cases hz⟩
     simp only [Option.map_none];split
     ·simp [IR.rest]
     ·rename_i he
      simp [IR.rest,he]
theorem IR.Ix {L:List UInt8} {s:IR} (h:s.ok L):(s.kind L).2.ok L:=by
 have:=IR.xU h;unfold IR.kind;split
 ·exact this
 ·split
  ·exact this
  ·split
   ·exact this
   ·simp only
    split
    ·exact⟨this.1,by simp,by simp⟩
    ·exact this
def IR.lW (L:List UInt8):Nat ->IR ->List Nat × IR
 | 0,s=>([],s)
 | n+1,s=>((s.jK L 1000).1::(IR.lW L n (s.jK L 1000).2).1,(IR.lW L n (s.jK L 1000).2).2)
theorem IR.wk (L:List UInt8):∀(n:Nat) (s:IR),(s.lW L n).2.rest L=et (pj 1000 n) (s.rest L)/\gO (pj 1000 n) (s.rest L) ((s.lW L n).1.map fun x:Nat=>(x:Int))
 | 0,s=>by
  refine⟨?_,fun y hy=>?_⟩
  ·simp only [IR.lW,et]
   cases s.rest L <;>rfl
  ·cases h:s.rest L with
   | none=>rw [h]at hy;simp at hy
   | some l=>rw [h]at hy;simp only [ao,pj,aS]at hy;rw [<- hy];rfl
 | n+1,s=>by
  have h1:=IR.rD L 1000 s;have h2:=IR.te L 1000 s;obtain⟨h3,h4⟩:=IR.wk L n (s.jK L 1000).2;rw [h1]at h3 h4;simp only [IR.lW];rw [h3];cases hr:s.rest L with
  | none=>exact⟨rfl,fun y hy=>by simp at hy⟩
  | some l=>
   rw [hr]at h2 h4;simp only [et,ao,pj]at h4⊢;cases ha:kO 1000 l with
   | none=>exact⟨rfl,fun y hy=>by simp [ha]at hy⟩
   | some a=>
    have e1:=h2 a (by simpa using ha);rw [ha]at h4;simp only [bq,ao];cases hb:pj 1000 n a.2 with
    | none=>exact⟨rfl,fun y hy=>by simp [ha,hb]at hy⟩
    | some b=>
     have e2:=h4 b (by simpa using hb);refine⟨rfl,fun y hy=>?_⟩;simp only [ao,ha,hb,aS]at hy;rw [<- hy,bF,e1,e2]
def IR.get (L:List UInt8) (c:Nat) (s:IR):eP × IR:=
 match fC c with
 | 2=>(⟨c,(s.kind L).1,0,[]⟩,(s.kind L).2)
 | 3=>(⟨c,(s.jK L 1000).1,0,[]⟩,(s.jK L 1000).2)
 | 4=>(⟨c,(((s.jK L 50).2.lW L (s.jK L 50).1).2.jK L 1000).1,0,((s.jK L 50).2.lW L (s.jK L 50).1).1.map fun x:Nat=>(x:Int)⟩,(((s.jK L 50).2.lW L (s.jK L 50).1).2.jK L 1000).2)
 | 5=>(⟨c,(s.jK L 1000).1,0,[]⟩,(s.jK L 1000).2.zero L)
 | 6=>(⟨c,(s.jK L 3).1,((s.jK L 3).2.jK L 4294967295).1,[]⟩,((s.jK L 3).2.jK L 4294967295).2)
 | 7=>(⟨c,0,0,[]⟩,s.zero L)
 | 8=>(⟨c,(s.qk L 32).1,0,[]⟩,(s.qk L 32).2)
 | 9=>(⟨c,(s.qk L 64).1,0,[]⟩,(s.qk L 64).2)
 | _=>(⟨c,0,0,[]⟩,s)
theorem IR.sa (c:UInt8) (l:List UInt8) (hf:fC c.toNat≠0):
  (IR.get (c::l) c.toNat ⟨1,0⟩).2.rest (c::l)=(gf (c::l)).map (·.2)/\∀y,gf (c::l)=some y ->(IR.get (c::l) c.toNat ⟨1,0⟩).1=y.1:=by
 have h0:IR.rest (c::l) ⟨1,0⟩=some l:=rfl;have Rw:=nK c.toNat;have hu:=fun lim=>IR.rD (c::l) lim ⟨1,0⟩;have hw:=fun lim=>IR.te (c::l) lim ⟨1,0⟩;simp only [h0,et,ao]at hu;simp only [h0,gO,ao]at hw;unfold IR.get gf;dsimp only;generalize hff:fC (c.toNat:Int)=f at*;rcases(show f=1\/f=2\/f=3\/f=4\/f=5\/f=6\/f=7\/f=8\/f=9 by omega)with rfl | rfl | rfl | rfl | rfl | rfl | rfl | rfl | rfl
 ·exact⟨rfl,fun y hy=>by injection hy with hy;rw [<- hy];rfl⟩
 ·obtain⟨h1,h2⟩:=IR.D6 (c::l) ⟨1,0⟩
  simp only [h0,et,ao]at h1 h2;simp only [h1];cases hk:sI l with
  | none=>exact⟨rfl,fun y hy=>by cases hy⟩
  | some k=>exact⟨rfl,fun y hy=>by simp only [ao,aS]at hy;rw [<- hy,h2 k hk]⟩
 ·simp only [hu]
  cases hk:kO 1000 l with
  | none=>exact⟨rfl,fun y hy=>by cases hy⟩
  | some k=>exact⟨rfl,fun y hy=>by simp only [ao,aS]at hy;rw [<- hy,hw 1000 k hk]⟩
 ·simp only
  generalize MQ:IR.jK (c::l) 50 ⟨1,0⟩=s1;have a1:=hu 50;have a2:=hw 50;rw [MQ]at a1 a2;obtain⟨b1,b2⟩:=IR.wk (c::l) s1.1 s1.2;generalize LL:s1.2.lW (c::l) s1.1=s2 at*;have c1:=IR.rD (c::l) 1000 s2.2;have c2:=IR.te (c::l) 1000 s2.2;generalize N4:s2.2.jK (c::l) 1000=s3 at*;rw [b1]at c1 c2;rw [a1]at b1 b2 c1 c2;rw [c1];cases h1:kO 50 l with
  | none=>exact⟨rfl,fun y hy=>by cases hy⟩
  | some n=>
   have e1:=a2 n h1;rw [h1]at b2 c2;simp only [bq,ao,et,e1]at b2 c2⊢;cases h2:pj 1000 n.1 n.2 with
   | none=>exact⟨rfl,fun y hy=>by cases hy⟩
   | some t=>
    have e2:=b2 t (by simpa using h2);rw [h2]at c2;simp only [bq,ao]at c2⊢;cases h3:kO 1000 t.2 with
    | none=>exact⟨rfl,fun y hy=>by cases hy⟩
    | some x=>
     have e3:=c2 x (by simpa using h3);exact⟨rfl,fun y hy=>by simp only [ao,aS]at hy;rw [<- hy,e3,e2]⟩
 ·simp only [IR.wM,hu]
  cases hk:kO 1000 l with
  | none=>exact⟨rfl,fun y hy=>by cases hy⟩
  | some k=>
   simp only [bq,ao];cases hz:o8 k.2 with
   | none=>exact⟨rfl,fun y hy=>by cases hy⟩
   | some r=>exact⟨rfl,fun y hy=>by simp only [ao,aS]at hy;rw [<- hy,hw 1000 k hk]⟩
 ·have c1:=IR.rD (c::l) 4294967295 (IR.jK (c::l) 3 ⟨1,0⟩).2
  have c2:=IR.te (c::l) 4294967295 (IR.jK (c::l) 3 ⟨1,0⟩).2;rw [hu]at c1 c2;simp only [c1];cases hk:kO 3 l with
  | none=>exact⟨rfl,fun y hy=>by cases hy⟩
  | some k=>
   rw [hk]at c2;simp only [bq,ao,et]at c2⊢;cases hz:kO 4294967295 k.2 with
   | none=>exact⟨rfl,fun y hy=>by cases hy⟩
   | some r=>exact⟨rfl,fun y hy=>by simp only [ao,aS]at hy;rw [<- hy,hw 3 k hk,c2 r (by simpa using hz)]⟩
 ·simp only [IR.wM,h0,ao]
  cases hz:o8 l with
  | none=>exact⟨rfl,fun y hy=>by cases hy⟩
  | some r=>exact⟨rfl,fun y hy=>by simp only [ao,aS]at hy;rw [<- hy]⟩
 ·have c1:=IR.zJ (c::l) 32 ⟨1,0⟩ rfl
  have c2:=IR.Co (c::l) 32 ⟨1,0⟩;simp only [h0,et,ao]at c1;simp only [h0,gO,ao]at c2;simp only [c1];cases hk:BK 32 l with
  | none=>exact⟨rfl,fun y hy=>by cases hy⟩
  | some k=>exact⟨rfl,fun y hy=>by simp only [ao,aS]at hy;rw [<- hy,c2 k hk]⟩
 ·have c1:=IR.zJ (c::l) 64 ⟨1,0⟩ rfl
  have c2:=IR.Co (c::l) 64 ⟨1,0⟩;simp only [h0,et,ao]at c1;simp only [h0,gO,ao]at c2;simp only [c1];cases hk:BK 64 l with
  | none=>exact⟨rfl,fun y hy=>by cases hy⟩
  | some k=>exact⟨rfl,fun y hy=>by simp only [ao,aS]at hy;rw [<- hy,c2 k hk]⟩
theorem iz (n a b:Int) (w:World):Calls prog 230 #[.int .i64 n, .int .i64 a, .int .i64 b] w (ew (lN n a b) w):=by
 by_cases q0:a <=n;rotate_left
 ·have f0:decide (a <=n)=false:=aw q0
  have HB:=V (show lN n a b=false by rw [lN,f0];rfl);go_enter func230,ntmps230;go_wp2;go_ret;exact⟨by rw [HB.out];rfl,an _ _⟩
 have f0:decide (a <=n)=true:=ay q0;by_cases q1:n <=b
 ·have f1:decide (n <=b)=true:=ay q1
  have HB:=V (show lN n a b=true by rw [lN,f0,f1];rfl);go_enter func230,ntmps230;go_wp2;go_ret;exact⟨by rw [HB.out];rfl,an _ _⟩
 ·have f1:decide (n <=b)=false:=aw q1
  have HB:=V (show lN n a b=false by rw [lN,f0,f1];rfl);go_enter func230,ntmps230;go_wp2;go_ret;exact⟨by rw [HB.out];rfl,an _ _⟩
def Kq (op:Int) (w:World) (e:Ending) (w':World):Prop:=e= .returned (.tuple #[.int .i64 (sF op).1, .int .i64 (sF op).2])/\Below w.heap.size w w'
theorem qK (op:Int) (w:World):Calls prog 229 #[.int .i64 op] w (Kq op w):=by
 have hb:=an w.heap.size w;go_enter func229,ntmps229;go_wp2_with fail;refine(iz op 69 79 _).mono ?_;rintro x w1 ⟨rfl,LP⟩;have hb:=dT hb LP;clear LP;cases h1:lN op 69 79
 ·have H1:=V h1
  clear h1;go_wp2_with fail;refine(iz op 103 120 _).mono ?_;rintro x w2 ⟨rfl,LP⟩;have hb:=dT hb LP;clear LP;cases h2:lN op 103 120
  ·have H2:=V h2
   clear h2;go_wp2_with fail;refine(iz op 80 90 _).mono ?_;rintro x w3 ⟨rfl,LP⟩;have hb:=dT hb LP;clear LP;cases h3:lN op 80 90
   ·have H3:=V h3
    clear h3;go_wp2_with fail;refine(iz op 121 138 _).mono ?_;rintro x w4 ⟨rfl,LP⟩;have hb:=dT hb LP;clear LP;cases h4:lN op 121 138
    ·have H4:=V h4
     clear h4;go_wp2
     go_ret2
     exact⟨by rw [sF,H1.out,H2.out,H3.out,H4.out];rfl,hb⟩
    ·obtain⟨g1,g2⟩:=jE.1 h4
     have H4:=V h4;clear h4;go_wp2
     go_ret2
     exact⟨by rw [sF,H1.out,H2.out,H3.out,H4.out];rfl,hb⟩
   ·obtain⟨g1,g2⟩:=jE.1 h3
    have H3:=V h3;clear h3;go_wp2
    go_ret2
    exact⟨by rw [sF,H1.out,H2.out,H3.out];rfl,hb⟩
  ·have H2:=V h2
   clear h2;go_wp2
   go_ret2
   exact⟨by rw [sF,H1.out,H2.out];rfl,hb⟩
 ·have H1:=V h1
  clear h1;go_wp2
  go_ret2
  exact⟨by rw [sF,H1.out];rfl,hb⟩
def Er (op:Int) (w:World) (e:Ending) (w':World):Prop:=
 ∃v,e= .returned (.tuple #[v, .int .i64 (eQ op).2.1, .bool (eQ op).2.2])/\ee 1 eU w' v (eQ op).1/\Below w.heap.size w w'
theorem lj (w:World) (x:Int) (t:TypeId):ee 1 eU (w.alloc (.cells #[.int .i64 x] t)) (.slice (some ⟨w.heap.size,0,none⟩) 1 1) [x]:=by
 refine⟨_,1,rfl,ag _,by simp [maxLen],fun i y hy=>⟨w.heap.size,0,rfl,by simp,fun j u hu=>?_⟩⟩;rw [bJ]
 match i,hy with
 | 0,hy=>
  simp at hy;subst hy
  match j,hu with
  | 0,hu=>simp [eU]at hu;subst hu;rfl
  | j+1,hu=>simp [eU]at hu
 | i+1,hy=>simp at hy
theorem Dy (op:Int) (w:World):Calls prog 133 #[.int .i64 op] w (Er op w):=by
 have hb:=an w.heap.size w;have Ng:∀w1:World,Below w1.heap.size w1 w1:=fun w1=>an _ _;by_cases q1:op=167
 ·subst q1
  go_enter func133,ntmps133;go_wp2
  go_ret3
  exact⟨_,rfl,lj w 2 _,hb.alloc (ag _) _⟩
 have f1:(op==167)=false:=dR q1;by_cases q2:op=172
 ·subst q2
  go_enter func133,ntmps133;go_wp2
  go_ret3
  exact⟨_,rfl,lj w 1 _,hb.alloc (ag _) _⟩
 have f2:(op==172)=false:=dR q2;by_cases q3:op=173
 ·subst q3
  go_enter func133,ntmps133;go_wp2
  go_ret3
  exact⟨_,rfl,lj w 1 _,hb.alloc (ag _) _⟩
 have f3:(op==173)=false:=dR q3;have HQ:Hid (op≠167/\op≠172/\op≠173):=V ⟨q1,q2,q3⟩;clear q1 q2 q3 Ng;go_enter func133,ntmps133;go_wp2_with fail;refine(qK op _).mono ?_;rintro x w1 ⟨rfl,LG⟩;obtain⟨k,hk⟩:∃k,(sF op).1=k:=⟨_,rfl⟩;obtain⟨l,hl⟩:∃l,(sF op).2=l:=⟨_,rfl⟩;rw [hk,hl];have HK:=V hk;have HL:=V hl;replace hb:=dT hb LG;clear hk hl LG f1 f2 f3;by_cases q4:k=0
 ·have f4:(k==0)=true:=eI q4
  have H4:=V q4;clear q4;go_wp2
  go_ret3
  have:eQ op=([],0,false):=by rw [eQ,az HQ.out.1,az HQ.out.2.1,az HQ.out.2.2,HK.out,aD H4.out]
  exact⟨_,by rw [this];rfl,by rw [this];exact ee.nil _,hb⟩
 have f4:(k==0)=false:=dR q4;have H4:=V (show k≠0 from q4);clear q4;by_cases q5:l=69
 ·have f5:(l==69)=true:=eI q5
  have H5:=V q5;clear q5;go_wp2
  go_ret3
  have:eQ op=([k],1,true):=by rw [eQ,az HQ.out.1,az HQ.out.2.1,az HQ.out.2.2,HK.out,HL.out,az H4.out,aD H5.out]
  exact⟨_,by rw [this];rfl,by rw [this];exact lj w1 k _,hb.alloc hb.size _⟩
 have f5:(l==69)=false:=dR q5;have H5:=V (show l≠69 from q5);clear q5;go_wp2_with fail;refine(iz l 70 79 _).mono ?_;rintro x w2 ⟨rfl,LP⟩;replace hb:=dT hb LP;clear LP f4 f5;cases h6:lN l 70 79 with
 | true=>
  have H6:=V h6;clear h6;go_wp2
  go_ret3
  have:eQ op=([k,k],1,true):=by rw [eQ,az HQ.out.1,az HQ.out.2.1,az HQ.out.2.2,HK.out,HL.out,az H4.out,az H5.out,H6.out];rfl
  exact⟨_,by rw [this];rfl,by rw [this];exact pH w2 k k _,hb.alloc hb.size _⟩
 | false=>
  have H6:=V h6;clear h6;go_wp2_with fail;refine(iz l 103 105 _).mono ?_;rintro x w3 ⟨rfl,LP⟩;replace hb:=dT hb LP;clear LP;cases h7:lN l 103 105 with
  | true=>
   have H7:=V h7;clear h7;go_wp2
   go_ret3
   have:eQ op=([k],k,true):=by rw [eQ,az HQ.out.1,az HQ.out.2.1,az HQ.out.2.2,HK.out,HL.out,az H4.out,az H5.out,H6.out,H7.out];rfl
   exact⟨_,by rw [this];rfl,by rw [this];exact lj w3 k _,hb.alloc hb.size _⟩
  | false=>
   have H7:=V h7;clear h7;go_wp2
   go_ret3
   have:eQ op=([k,k],k,true):=by rw [eQ,az HQ.out.1,az HQ.out.2.1,az HQ.out.2.2,HK.out,HL.out,az H4.out,az H5.out,H6.out,H7.out];rfl
   exact⟨_,by rw [this];rfl,by rw [this];exact pH w3 k k _,hb.alloc hb.size _⟩
def CV (op:Int) (w:World) (e:Ending) (w':World):Prop:=e= .returned (.int .i64 (fC op))/\Below w.heap.size w w'
theorem GS (w:World):∀op∈([0,1,5,11,15,26,27,2,3,4,12,13,16,32,33,34,35,36,14,17,40,41,44,45,54,55,58,63,64,65,66]:List Int),Calls prog 146 #[.int .i64 op] w (CV op w):=by
 intro op h;simp only [bH,bP,da]at h;rcases h with rfl | rfl | rfl | rfl | rfl | rfl | rfl | rfl | rfl | rfl | rfl | rfl | rfl | rfl | rfl | rfl | rfl | rfl | rfl | rfl | rfl | rfl | rfl | rfl | rfl | rfl | rfl | rfl | rfl | rfl | rfl
 all_goals
  go_enter func146,ntmps146;go_wp2;go_ret;exact⟨rfl,an _ _⟩
theorem uC (op:Int) (w:World):Calls prog 146 #[.int .i64 op] w (CV op w):=by
 by_cases h:op∈([0,1,5,11,15,26,27,2,3,4,12,13,16,32,33,34,35,36,14,17,40,41,44,45,54,55,58,63,64,65,66]:List Int)
 ·exact GS w op h
 simp only [bH,bP,da,not_or]at h;obtain⟨q0,q1,q5,OX,q15,q26,q27,q2,q3,q4,q12,q13,q16,q32,q33,q34,q35,q36,q14,q17,q40,q41,q44,q45,q54,q55,q58,q63,q64,q65,q66⟩:=h;have HF:Hid (fC op=if(eQ op).2.2=true then 1 else 0):=V (by
  unfold fC;rw [az (by omega),az (by omega),az (by omega),az q14,az q17,az (by omega),az (by omega),az q65,az q66])
 replace q0:=dR q0;replace q1:=dR q1;replace q5:=dR q5;replace OX:=dR OX;replace q15:=dR q15;replace q26:=dR q26;replace q27:=dR q27;replace q2:=dR q2;replace q3:=dR q3;replace q4:=dR q4;replace q12:=dR q12;replace q13:=dR q13;replace q16:=dR q16;replace q32:=dR q32;replace q33:=dR q33;replace q34:=dR q34;replace q35:=dR q35;replace q36:=dR q36;replace q14:=dR q14;replace q17:=dR q17;replace q40:=dR q40;replace q41:=dR q41;replace q44:=dR q44;replace q45:=dR q45;replace q54:=dR q54;replace q55:=dR q55;replace q58:=dR q58;replace q63:=dR q63;replace q64:=dR q64;replace q65:=dR q65;replace q66:=dR q66;go_enter func146,ntmps146;go_wp2_with fail;refine(Dy op _).mono ?_;rintro x w1 ⟨v,rfl,-,hb⟩;clear q0 q1 q5 OX q15 q26 q27 q2 q3 q4 q12 q13 q16 q32 q33 q34 q35 q36 q14 q17 q40 q41 q44 q45 q54 q55 q58 q63 q64 q65 q66;cases hk:(eQ op).2.2 with
 | true=>
  have HK:=V hk;clear hk;go_wp2;go_ret;exact⟨by rw [HF.out,aD HK.out];rfl,hb⟩
 | false=>
  have HK:=V hk;clear hk;go_wp2;go_ret;exact⟨by rw [HF.out,az (by rw [HK.out];decide)];rfl,hb⟩
theorem jQ (n a b:Int) (w:World):Calls prog 147 #[.int .i64 n, .int .i64 a, .int .i64 b] w (ew (lN n a b) w):=by
 by_cases q0:a <=n;rotate_left
 ·have f0:decide (a <=n)=false:=aw q0
  have HB:=V (show lN n a b=false by rw [lN,f0];rfl);go_enter func147,ntmps147;go_wp2;go_ret;exact⟨by rw [HB.out];rfl,an _ _⟩
 have f0:decide (a <=n)=true:=ay q0;by_cases q1:n <=b
 ·have f1:decide (n <=b)=true:=ay q1
  have HB:=V (show lN n a b=true by rw [lN,f0,f1];rfl);go_enter func147,ntmps147;go_wp2;go_ret;exact⟨by rw [HB.out];rfl,an _ _⟩
 ·have f1:decide (n <=b)=false:=aw q1
  have HB:=V (show lN n a b=false by rw [lN,f0,f1];rfl);go_enter func147,ntmps147;go_wp2;go_ret;exact⟨by rw [HB.out];rfl,an _ _⟩
theorem nd (n:Int) (w:World):Calls prog 148 #[.int .i64 n] w (ew (lN n 0 1000) w):=by
 go_enter func148,ntmps148;go_wp2_with fail;refine(jQ n 0 1000 _).mono ?_;rintro x w1 ⟨rfl,hb⟩;go_wp2;go_ret;exact⟨rfl,hb⟩
end Go.Proofs.YtjmeglibedbljaaGreatDoor
