import Derived.Test.YtjmeglibedbljaaGreatDoorRunNoneJ9
namespace Go.Proofs.YtjmeglibedbljaaGreatDoor
set_option maxRecDepth 100000
set_option maxHeartbeats 20000000
open Go.RowKit Tryz
open Lib renaming hid->V
set_option linter.all false
theorem fG.fail {w0 w:World} {R:Nat} {st:gA} (h:fG w0 w R st):fG w0 (w.setCell ⟨R,1,none⟩ (.bool true)) R none:=by
 obtain⟨a,l,cap,bad,h1,h2,h3,h4,h5,h6⟩:=h;exact⟨a,l,cap,true,by simpa using h1.set 1 (.bool true),h2,h3,rfl,h5.setCell h6 _,h6⟩
theorem fG.free {w0 w:World} {R:Nat} {st:gA} (h:fG w0 w R st) (i:Nat):w.frozen? ⟨R,i,none⟩=false:=by
 obtain⟨a,l,cap,bad,h1,_⟩:=h;exact h1.free i
theorem fG.some {w0 w:World} {R:Nat} {l:List UInt8} (h:fG w0 w R (some l)):∃a cap,w.cell? ⟨R,0,none⟩=some (.slice a l.length cap)/\eG w (.slice a l.length cap) l/\l.length <=8000:=by
 obtain⟨a,l',cap,bad,h1,h2,h3,h4,h5,h6⟩:=h;cases bad with
 | true=>cases h4
 | false=>
  injection h4 with h4;subst h4;exact⟨a,cap,h1.cell 0,h2.below h5,h3⟩
theorem Ez {α:Type} {get:iV α} {n:Nat} {acc:List α} {st:gA} (h:et get st=none):qT get (n+1) acc st=none:=by
 cases st with
 | none=>rfl
 | some l=>
  have hg:get l=none:=by
   cases hg:get l with
   | none=>rfl
   | some y=>simp [et,hg]at h
  simp [qT,rY,hg]
theorem Ek {α:Type} {get:iV α} {st Rr:gA} {acc:List α} {n:Nat} (h:st.bind (fg get)=qT get (n+1) acc Rr) (hb:et get Rr=none):et (fg get) st=none/\∀x,gO (fg get) st x:=by
 rw [Ez hb]at h;refine⟨by unfold et;rw [h];rfl,fun x y hy=>by rw [h]at hy;cases hy⟩
theorem EA (s:gA):et lU s=(if 32 < jj s then none else et gz (et fX s))/\gO lU s (jj s,nC (et fX s)):=by
 cases s with
 | none=>exact⟨rfl,mo _ _⟩
 | some l=>
  cases h:fX l with
  | none=>
   have h1:lU l=none:=by simp [lU,h]
   have h2:jj (some l)=0:=by simp [jj,h]
   have h3:et fX (some l)=none:=by simp [et,h]
   rw [h2,h3,az (by decide)];exact⟨by simp [et,h1],fun y hy=>by simp [h1]at hy⟩
  | some y=>
   have h2:jj (some l)=y.1:=by simp [jj,h]
   have h3:et fX (some l)=some y.2:=by simp [et,h]
   rw [h2,h3];cases hk:gz y.2 with
   | none=>
    have h1:lU l=none:=by simp [lU,h,hk]
    exact⟨by simp [et,h1,hk],fun z hz=>by simp [h1]at hz⟩
   | some z=>
    by_cases q:32 < y.1
    ·have h1:lU l=none:=by simp [lU,h,hk,q]
     exact⟨by rw [aD q];simp [et,h1],fun z hz=>by simp [h1]at hz⟩
    ·have h1:lU l=some ((y.1,z.1),z.2):=by simp [lU,h,hk,q]
     refine⟨by rw [az q];simp [et,h1,hk],fun u hu=>?_⟩;simp only [ao,h1,aS]at hu;rw [<- hu];simp [nC,hk]
theorem px (acc:List (Nat × Int)) (m:Nat) (k:Int):iF (acc++[(m,k)])=iF acc++List.replicate m k:=by simp [iF]
def Jw (w0 w:World) (R:Nat) (st:gA) (e:Ending) (w':World):Prop:=
 ∃v l,e= .returned v/\dS 3 1 eU w' w.heap.size v l/\(∀x∈l,iR x)/\l.length <=300000/\gO jn st l/\fG w0 w' R (et jn st)/\dU (fun k=>k=R) w w'
def KM (w0:World) (R:Nat) (st:gA) (w w':World) (v:Value) (acc:List (Nat × Int)) (n:Nat) (s:gA):Prop:=
 st.bind (fg lU)=qT lU n acc s/\dS 3 1 eU w' w.heap.size v (iF acc)/\(∀x∈iF acc,iR x)/\(iF acc).length <=32*acc.length/\acc.length+s.len <=8001/\fG w0 w' R s/\dU (fun k=>k=R) w w'/\n < 4294967296
theorem AY (w0 w:World) (Y:Nat) (st:gA) (h:fG w0 w Y st):Calls prog 289 #[.pointer (some ⟨Y,0,none⟩)] w (Jw w0 w Y st):=by
 have HH:=V h;have hR:=h.lt;clear h;go_enter func289,ntmps289;go_wp2_with fail;refine(jI w0 w Y st HH.out).mono ?_;rintro e w1 ⟨rfl,h1,Oa⟩;have Qk:=V (tY lU st _ (mF st));have hn:=lz st;have hlen:=h1.len;obtain⟨N,eN⟩:∃N,jj st=N:=⟨_,rfl⟩;rw [eN]at hn Qk⊢;clear eN;go_wp2_with fail;refine eC (fun a' w'=>∃(v:Value) (acc:List (Nat × Int)) (n:Nat) (s:gA),a'=fr (.pointer (some ⟨Y,0,none⟩)::gs a' 1 2 (v:: .int .i64 n::gs a' 5 31 []))/\KM w0 Y st w w' v acc n s) (fun a' _=>(intOf (a'.tmps.getD 4 undef)).toNat) ?_ ?_
 ·exact⟨_,[],N,et fX st,rfl,Qk.out,dS.nil _ _,by simp [iF],by simp [iF],by simpa using hlen,h1,Oa,hn⟩
 ·clear h1 Oa hn hlen Qk HH
  rintro R a' w1 ⟨v,acc,n,s,Lv,hJ⟩ HR;dsimp only [fr,gs]at Lv;generalize slot a'=f at Lv;subst Lv;obtain⟨O7,ho,Ml,OK,hlen,Nm,hk,hn⟩:=hJ;obtain⟨av,cv,rfl,-,M6⟩:=ho.slice;have Ms:=V Nm;have Nx:=V O7;have L9:=V Ml;have HK:=V hk;have HO:=V ho;have HRL:=V hR;have c1:=Nm.bad;have hub:(iF acc).length <=300000:=by omega
  clear O7 ho Ml Nm hk;rcases aZ n with OW | OW
  ·obtain⟨g1,g2⟩:=nv lU Nx.out (.inl OW)
   have G1:=V g1;have G2:=V g2;subst OW;clear g1 g2 OK hlen;go_wp2;go_ret;exact⟨_,iF acc,rfl,HO.out,L9.out,hub,by rw [kh];exact fo G2.out,by rw [kh,fh,G1.out];exact Ms.out,HK.out⟩
  have f0:decide ((0:Int) < (n:Int))=true:=ay (by omega);cases s with
  | none=>
   have c1:w1.cell? ⟨Y,1,none⟩=some (.bool true):=c1;obtain⟨g1,g2⟩:=nv lU Nx.out (.inr rfl);have G1:=V g1;have G2:=V g2;clear g1 g2 OK hlen;go_wp2;go_ret;exact⟨_,iF acc,rfl,HO.out,L9.out,hub,by rw [kh];exact fo G2.out,by rw [kh,fh,G1.out];exact Ms.out,HK.out⟩
  | some lb=>
   have c1:w1.cell? ⟨Y,1,none⟩=some (.bool false):=c1;obtain⟨n',rfl⟩:∃n',n=n'+1:=⟨n - 1,by omega⟩;have LD:=yy.len lb;have OM:=V (show acc.length+1+(et lU (some lb)).len <=8001 by omega);have HUL:=V OK;obtain⟨hrn,hrw⟩:=EA (some lb);have hm:=lz (some lb);clear LD hlen OK;go_wp2_with fail;refine(jI w0 w1 Y _ Ms.out).mono ?_;rintro e w2 ⟨rfl,h2,LH⟩;have HO:=V (HO.out.stay LH (fun i hi=>by have:=HRL.out;omega));have Ms:=V h2;have HK:=V (HK.out.trans LH (fun _ h=> .inl h));obtain⟨m,em⟩:∃m,jj (some lb)=m:=⟨_,rfl⟩;obtain⟨kd,ek⟩:∃kd,nC (et fX (some lb))=kd:=⟨_,rfl⟩;have HKI:=V (show iR kd by rw [<- ek];exact CY _);rw [em]at hrn hrw hm;rw [ek]at hrw;rw [em];have EK:=V ek;have HRN:=V hrn;have HRW:=V hrw;clear h2 LH c1 hrn hrw em ek;go_wp2_with fail;refine(tS w0 w2 Y _ Ms.out).mono ?_;rintro e w3 ⟨rfl,h3,Mz⟩;have HO:=V (HO.out.stay Mz (fun i hi=>by have:=HRL.out;omega));have Ms:=V h3;have HK:=V (HK.out.trans Mz (fun _ h=> .inl h));rw [EK.out];clear h3 Mz;by_cases q:32 < m
   ·have f1:decide ((32:Int) < (m:Int))=true:=ay (by omega)
    have f2:decide (32 < m)=true:=ay q;obtain⟨g1,g2⟩:=Ek Nx.out (by rw [HRN.out,aD q]);have G1:=V g1;have G2:=V g2;have c1:=Ms.out.bad;have z1:=Ms.out.free 1;clear g1 g2 q;go_wp2;go_ret;have Lx:=ei w3 Y 1 (.bool true);exact⟨_,[],rfl,dS.nil _ _,by simp,by simp,by rw [kh];exact fo (f:=iF) (G2.out []),by rw [kh,fh,G1.out];exact Ms.out.fail,HK.out.trans Lx (fun _ h=> .inl h)⟩
   ·have f1:decide ((32:Int) < (m:Int))=false:=aw (by omega)
    have f2:decide (32 < m)=false:=aw q;have HNX:=V (show et lU (some lb)=et gz (et fX (some lb))by rw [HRN.out,az q]);have hm32:m <=32:=by omega
    have RC:=(an w3.heap.size w3).alloc (ag _) (.cells #[.int .i64 kd] 3);have HO:=V (HO.out.below RC);have Ms:=V (Ms.out.below RC);have HK:=V (HK.out.alloc (.cells #[.int .i64 kd] 3));have HL:=V (lj w3 kd 3);clear q RC;go_wp2_with fail;refine(qo _ 1 kd m (by omega) _ HL.out).mono ?_;rintro e w4 ⟨g,rfl,hog,MN⟩;have HO:=V (HO.out.below MN);have Ms:=V (Ms.out.below MN);have HK:=V (HK.out.trans (dU.dW (S:=fun _=>False) MN) (fun _ h=>h.elim));have HM:=V (by have h:=hog.fH fm;exact h);have HSZ:Hid (w.heap.size <=w4.heap.size):=V HK.out.size;clear hog MN;go_wp2_with (first | (at_builtin;refine kl w4 rfl _ _ 26 rfl _ 8 (by kernel_rfl) jA rfl (by decide) (by decide) w.heap.size (.slice av (iF acc).length cv) (iF acc) rfl HO.out fm (List.replicate m kd) ⟨g,0,none⟩ m m rfl HM.out (fun y _=>CH y) (by rw [bp];omega) HSZ.out ?_));intro v5 w5 ho5 N7 Qq;have hlt5:∀i,ez (.slice av (iF acc).length cv) i ->w.heap.size <=i/\i < w4.heap.size:=fun i hi=>ey HO.out hi;have HRD5:=V (Ms.out.keeps N7 (fun h=>by have:=(hlt5 _ h).1;have:=HRL.out;omega) (fun i hi=>by have:=(hlt5 i hi).1;have:=Ms.out.old.2;have:=HRL.out;omega));have HK5:=V (HK.out.trans N7 (fun i hi=> .inr (hlt5 i hi).1));have HO5:=V ho5;clear ho5 N7 Qq hlt5;go_wp2;refine HR.out _ _ ⟨_,acc++[(m,kd)],n',et lU (some lb),rfl,by rw [Nx.out,rR lU n' acc HRW.out],by rw [px];exact HO5.out,?_,?_,?_,by rw [HNX.out];exact HRD5.out,HK5.out,by omega⟩ ?_
    ·intro x hx
     rw [px]at hx;rcases bT.1 hx with hx | hx
     ·exact L9.out x hx
     ·rw [(dM.1 hx).2]
      exact HKI.out
    ·rw [px,ah,ah,bp,aB]
     have:=HUL.out;omega
    ·rw [ah]
     exact OM.out
    ·simp [intOf]
theorem uJ {s:gA} {l1:List Int} {l2:List eP} (h1:gO jn (et fX s) l1) (h2:gO kI (et jn (et fX s)) l2):gO lM s ⟨l1,l2⟩:=by
 rw [tu];exact fo (f:=fun x:Nat × List Int × List eP=>hI.mk x.2.1 x.2.2) (ib (mF s) (ib h1 h2))
theorem sm (s:gA):et lM s=et kI (et jn (et fX s)):=by rw [tu,fh,gI,gI]
theorem EY (w0 w:World) (R:Nat) (s:gA) (h:fG w0 w R s):Calls prog 219 (#[.pointer (some ⟨R,0,none⟩)]++#[]) w (KB (fun(_:hI) (u:Value × Value)=> .agg #[u.1,u.2]) gE w0 R lM (fun _=>True) s w):=by
 have Oc:=h.lt;have Po:=h.old.2;have HH:=V (h.alloc (.cells #[.slice none 0 0, .slice none 0 0] 41));have HX:=V (eD.new w #[.slice none 0 0, .slice none 0 0] 41);have HK:=V ((dU.refl (fun k=>k=R) w).alloc (.cells #[.slice none 0 0, .slice none 0 0] 41));have Mq:(w.alloc (.cells #[.slice none 0 0, .slice none 0 0] 41)).heap.size=w.heap.size+1:=aC _ _;have ME:=dt Mq.symm;clear h Mq;go_enter func219,ntmps219;go_wp2_with fail;refine(jI w0 _ R s HH.out).mono ?_;rintro e w1 ⟨rfl,hh,hk⟩;have ME:=aQ ME hk.size;have HH:=V hh;have HX:=V (HX.out.keeps hk (by omega));have HK:=V (HK.out.trans hk (fun _ h=> .inl h));clear hh hk;go_wp2_with fail;refine(AY w0 w1 R _ HH.out).mono ?_;rintro e w2 ⟨v1,l1,rfl,Og,hp1,QV,P9,hh,hk⟩;obtain⟨a1,c1,rfl,-,-⟩:=Og.slice;have Nd:=hk.size;have HP1:=V hp1;have PJ:=V P9;have LR:=(an w2.heap.size w2).alloc (ag _) (.cells #[.slice a1 l1.length c1, .slice none 0 0] 41);have M4:=V (Og.below LR);have HV:=V (show∀i,ez (.slice a1 l1.length c1) i ->i < w2.heap.size from fun i hi=>(ey Og hi).2);clear Og hp1 P9;have HH:=V hh;have HX:=V (HX.out.keeps hk (by omega));have HK:=V (HK.out.trans hk (fun _ h=> .inl h));clear hh hk;have HX:=V (HX.out.below LR HX.out.lt);have HH:=V (HH.out.below LR);have HK:=V (HK.out.alloc (.cells #[.slice a1 l1.length c1, .slice none 0 0] 41));have HY:=V (eD.new w2 #[.slice a1 l1.length c1, .slice none 0 0] 41);clear LR;obtain⟨s3,es3⟩:∃s3,et jn (et fX s)=s3:=⟨_,rfl⟩;rw [es3]at HH;have ES3:=V es3;clear es3;have cb:=HH.out.bad;cases s3 with
 | none=>
  have cb:(w2.alloc (.cells #[.slice a1 l1.length c1, .slice none 0 0] 41)).cell? ⟨R,1,none⟩=some (.bool true):=cb;obtain⟨y0,y1,u0,u1⟩:=HY.out.two;obtain⟨x0,x1,z0,z1⟩:=HX.out.two;go_wp2_with fail;have hx:=HX.out.mL (.slice a1 l1.length c1) (.slice none 0 0);have Lx:=fp (w2.alloc (.cells #[.slice a1 l1.length c1, .slice none 0 0] 41)) w.heap.size (.slice a1 l1.length c1) (.slice none 0 0);refine aF (ej rfl _ _ rfl hx.tB) rfl ?_;have o1:=(M4.out.stay Lx (fun i hi=>by omega)).lower (show w.heap.size <=w1.heap.size by omega);refine⟨⟨l1,[]⟩,(.slice a1 l1.length c1, .slice none 0 0),rfl,⟨⟨iY fm o1,ef.nil _⟩,HP1.out⟩,trivial,uJ PJ.out (by rw [ES3.out];exact mo _ _),?_,HK.out.iJ Lx (ag _)⟩;rw [sm,ES3.out];exact HH.out.keeps Lx (by omega) (fun i hi=>by omega)
 | some L=>
  have cb:(w2.alloc (.cells #[.slice a1 l1.length c1, .slice none 0 0] 41)).cell? ⟨R,1,none⟩=some (.bool false):=cb;obtain⟨a,cap,c0,hb,hlen⟩:=HH.out.some;have MB:=V hb;obtain⟨_,_,hv,_,Nc,-⟩:=id hb;clear hb hv Nc;go_wp2_with fail;refine(zq _ L _ MB.out (by omega)).mono ?_;rintro e w3 ⟨hb,hc⟩;have M4:=V (M4.out.below hb);have HX:=V (HX.out.below hb HX.out.lt);have HY:=V (HY.out.below hb HY.out.lt);have HH:=V (HH.out.below hb);have HK:=V (HK.out.trans (dU.dW (S:=fun _=>False) hb) (fun _ h=>h.elim));have hz3:=hb.size;rw [aC]at hz3 hc;clear hb c0 cb;rcases hc with⟨l2,r,v,Me,rfl,hd⟩ | ⟨err,Me,he,-,rfl⟩
  ·obtain⟨av,cv,rfl,-,-⟩:=ef.slice (eZ.low ku (fun _ _ _ _ he h=>h.ext he) hd)
   have HD:=V hd;obtain⟨p,hp⟩:=vY (y:=(l2,r)) Me;have hsk:il (L.length - r.length) true (some L)=some r:=by
    have h1:L.length - r.length=p.length:=by rw [hp,ah];simp
    rw [h1,hp];simp [il]
   have HNX:=V (show et lM s=some r by rw [sm,ES3.out];simp [et,Me]);have HWS:=V (show gO lM s ⟨l1,l2⟩from uJ PJ.out (by
    rw [ES3.out];intro y hy;have:some (l2,r)=some y:=by rw [<- Me];exact hy
    injection this with this;rw [<- this]))
   clear hd Me hp;go_wp2_with fail;refine(kt w0 w3 R _ (L.length - r.length) true (by omega) HH.out).mono ?_;rintro e w4 ⟨rfl,hh,hk⟩;rw [hsk]at hh;have M4:=V (M4.out.stay hk (fun i hi=>by omega));have HY:=V (HY.out.keeps hk (by omega));have HD:=V (eZ.keeps (fun _ _ _ _ he h=>h.ext he) HD.out hk (fun i hi=> .inl (by omega)));clear hsk;have HH:=V hh;have HX:=V (HX.out.keeps hk (by omega));have HK:=V (HK.out.trans hk (fun _ h=> .inl h));clear hh hk;obtain⟨y0,y1,u0,u1⟩:=HY.out.two;obtain⟨x0,x1,z0,z1⟩:=HX.out.two;go_wp2_with fail;have Ns:=ei w4 w2.heap.size 1 (.slice av l2.length cv);have hx:=(HX.out.keeps Ns (by omega)).mL (.slice a1 l1.length c1) (.slice av l2.length cv);have Lx:=fp (w4.setCell ⟨w2.heap.size,1,none⟩ (.slice av l2.length cv)) w.heap.size (.slice a1 l1.length c1) (.slice av l2.length cv);refine aF (ej rfl _ _ rfl hx.tB) rfl ?_;have M7:dU (fun k=>k < w2.heap.size+1) w4 (((w4.setCell ⟨w2.heap.size,1,none⟩ (.slice av l2.length cv)).setCell ⟨w.heap.size,0,none⟩ (.slice a1 l1.length c1)).setCell ⟨w.heap.size,1,none⟩ (.slice av l2.length cv)):=(Ns.mono (fun i hi=>by omega)).trans Lx (fun i hi=> .inl (by omega));have o1:=((M4.out.keeps Ns (fun i hi h=>by have:=HV.out i hi;omega)).stay Lx (fun i hi=>by omega)).lower (show w.heap.size <=w1.heap.size by omega);have o2:=eZ.low ku (fun _ _ _ _ he h=>h.ext he) (eZ.keeps (fun _ _ _ _ he h=>h.ext he) HD.out M7 (fun i hi=> .inl hi));have o3:gu (mask (jO w.heap.size) _) (.slice av l2.length cv) l2:=gu.ext o2 (tW _ (by omega));refine⟨⟨l1,l2⟩,(.slice a1 l1.length c1, .slice av l2.length cv),rfl,⟨⟨iY fm o1,o3⟩,HP1.out⟩,trivial,HWS.out,?_,(HK.out.iJ Ns (by omega)).iJ Lx (ag _)⟩;rw [HNX.out];exact(HH.out.keeps Ns (by omega) (fun i hi=>by omega)).keeps Lx (by omega) (fun i hi=>by omega)
  ·have f1:=dR he
   have hsk:il 0 false (some L)=none:=rfl;have HNX:=V (show et lM s=none by rw [sm,ES3.out];simp [et,Me]);have HWS:=V (show gO lM s ⟨l1,[]⟩from uJ PJ.out (by
    rw [ES3.out];intro y hy;have:none=some y:=by rw [<- Me];exact hy
    cases this))
   clear Me he;go_wp2_with fail;refine(kt w0 w3 R _ 0 false (by omega) HH.out).mono ?_;rintro e w4 ⟨rfl,hh,hk⟩;rw [hsk]at hh;have M4:=V (M4.out.stay hk (fun i hi=>by omega));have HY:=V (HY.out.keeps hk (by omega));clear hsk;have HH:=V hh;have HX:=V (HX.out.keeps hk (by omega));have HK:=V (HK.out.trans hk (fun _ h=> .inl h));clear hh hk;obtain⟨y0,y1,u0,u1⟩:=HY.out.two;obtain⟨x0,x1,z0,z1⟩:=HX.out.two;go_wp2_with fail;have Ns:=ei w4 w2.heap.size 1 (.slice none 0 0);have hx:=(HX.out.keeps Ns (by omega)).mL (.slice a1 l1.length c1) (.slice none 0 0);have Lx:=fp (w4.setCell ⟨w2.heap.size,1,none⟩ (.slice none 0 0)) w.heap.size (.slice a1 l1.length c1) (.slice none 0 0);refine aF (ej rfl _ _ rfl hx.tB) rfl ?_;have M7:dU (fun k=>k < w2.heap.size+1) w4 (((w4.setCell ⟨w2.heap.size,1,none⟩ (.slice none 0 0)).setCell ⟨w.heap.size,0,none⟩ (.slice a1 l1.length c1)).setCell ⟨w.heap.size,1,none⟩ (.slice none 0 0)):=(Ns.mono (fun i hi=>by omega)).trans Lx (fun i hi=> .inl (by omega));have o1:=((M4.out.keeps Ns (fun i hi h=>by have:=HV.out i hi;omega)).stay Lx (fun i hi=>by omega)).lower (show w.heap.size <=w1.heap.size by omega);refine⟨⟨l1,[]⟩,(.slice a1 l1.length c1, .slice none 0 0),rfl,⟨⟨iY fm o1,ef.nil _⟩,HP1.out⟩,trivial,HWS.out,?_,(HK.out.iJ Ns (by omega)).iJ Lx (ag _)⟩;rw [HNX.out];exact(HH.out.keeps Ns (by omega) (fun i hi=>by omega)).keeps Lx (by omega) (fun i hi=>by omega)
def nu (B:Nat) (w:World) (M:Nat) (u:eE) (m:eu):Prop:=eD w M (u.cells m) 35/\eo (mask (jO B) w) u m/\m.words/\M < B/\B <=w.heap.size
theorem nu.keeps {S:Nat ->Prop} {B:Nat} {w w':World} {M:Nat} {u:eE} {m:eu} (h:nu B w M u m) (hk:dU S w w') (hS:∀i,S i ->i < B\/w.heap.size <=i) (hM:¬ S M):nu B w' M u m:=
 ⟨h.1.keeps hk hM,h.2.1.ext (ni hk hS (.inl (ag _))),h.2.2.1,h.2.2.2.1,aQ h.2.2.2.2 hk.size⟩
theorem nu.below {B:Nat} {w w':World} {M:Nat} {u:eE} {m:eu} (h:nu B w M u m) (hb:Below w.heap.size w w'):nu B w' M u m:=
 h.keeps (dU.dW (S:=fun _=>False) hb) (fun _ h=>h.elim) (fun h=>h)
theorem nu.put {B:Nat} {w:World} {M:Nat} {u u':eE} {m m':eu} {i:Nat} {v:Value} (h:nu B w M u m) (hc:(u.cells m).setIfInBounds i v=u'.cells m') (hw:m'.words)
  (hi:eo (mask (jO B) (w.setCell ⟨M,i,none⟩ v)) u m ->eo (mask (jO B) (w.setCell ⟨M,i,none⟩ v)) u' m'):nu B (w.setCell ⟨M,i,none⟩ v) M u' m':=by
 have hk:=ei w M i v;exact⟨by rw [<- hc];exact h.1.set i v,hi (h.2.1.ext (ni hk (fun k e=> .inl (by rw [e];exact h.2.2.2.1)) (.inl (ag _)))),hw,h.2.2.2.1,aQ h.2.2.2.2 hk.size⟩
theorem nu.vr {B:Nat} {w:World} {M:Nat} {u u':eE} {m m':eu} {i:Nat} {v0 v1 v2:Value} (h:nu B w M u m) (hc:(((u.cells m).setIfInBounds i v0).setIfInBounds (i+1) v1).setIfInBounds (i+2) v2=u'.cells m') (hw:m'.words)
  (hi:∀w',eo w' u m ->eo w' u' m'):nu B (((w.setCell ⟨M,i,none⟩ v0).setCell ⟨M,i+1,none⟩ v1).setCell ⟨M,i+2,none⟩ v2) M u' m'/\dU (fun k=>k=M) w (((w.setCell ⟨M,i,none⟩ v0).setCell ⟨M,i+1,none⟩ v1).setCell ⟨M,i+2,none⟩ v2):=by
 have hk:=((ei w M i v0).trans (ei _ M (i+1) v1) (fun _ h=> .inl h)).trans (ei _ M (i+2) v2) (fun _ h=> .inl h);exact⟨⟨by rw [<- hc];exact((h.1.set i v0).set (i+1) v1).set (i+2) v2,hi _ (h.2.1.ext (ni hk (fun k e=> .inl (by rw [e];exact h.2.2.2.1)) (.inl (ag _)))),hw,h.2.2.2.1,aQ h.2.2.2.2 hk.size⟩,hk⟩
theorem tm {α β:Type} {t:TypeId} {k:Nat} {enc:α × β ->List Value} {inner:World ->α ->β ->Prop} (hk:∀x,(enc x).length=k) (hx:∀w w' x u,Ext w w' ->inner w x u ->inner w' x u) {w:World} {B B1 M i:Nat} {v x:Value} {l:List α} (h:eZ t k enc inner w B1 v l) (hB:B <=B1) (hM:M < B):
  ef k enc inner (mask (jO B) (w.setCell ⟨M,i,none⟩ x)) v l:=
 ef.ext (eZ.low hk hx (eZ.keeps hx h (ei w M i x) (fun j hj=> .inl (by omega)))) (tW _ hB) (fun _ _ h=>hx _ _ _ _ (tW _ hB) h)
theorem sX {α:Type} {t:TypeId} {k:Nat} {enc:α ->List Value} (hk:∀x,(enc x).length=k) {w:World} {B B1 M i:Nat} {v x:Value} {l:List α} (h:dS t k enc w B1 v l) (hB:B <=B1) (hM:M < B):
  ee k enc (mask (jO B) (w.setCell ⟨M,i,none⟩ x)) v l:=
 (iY hk ((h.stay (ei w M i x) (fun j hj=>by omega)).lower hB))
def kY (w0 w:World) (R M B:Nat) (no:Nat) (st:gA) (m:eu) (e:Ending) (w':World):Prop:=
 ∃u' m',e= .returned (.tuple #[])/\nu B w' M u' m'/\gO (jo no m) st m'/\fG w0 w' R (et (jo no m) st)/\dU (fun k=>k=R\/k=M) w w'
theorem IT {l:List jD} (h:∀x∈l,x.fits):∀x∈l,x.mod.size <=1000000000000/\x.name.size <=1000000000000:=fun x hx=>by
 obtain⟨h1,h2,_⟩:=h x hx;omega
theorem It {l:List iU} (h:∀x∈l,x.fits):∀x∈l,x.name.size <=1000000000000:=fun x hx=>by
 obtain⟨h1,_⟩:=h x hx;omega
def pY (no:Nat) (i:Int):Prop:=∀(n:Nat) (_:n=no) (w0 w:World) (R M B:Nat) (st:gA) (u:eE) (m:eu),fG w0 w R st ->nu B w M u m ->R < B ->R≠M ->w0.heap.size <=M ->Calls prog 123 #[.pointer (some ⟨R,0,none⟩), .pointer (some ⟨M,0,none⟩), .int .i64 i] w (kY w0 w R M B no st m)
theorem kY.of {w0 w w2:World} {R M B no i:Nat} {st N5:gA} {u u':eE} {m m':eu} {v:Value} (hM:nu B w2 M u m) (hH:fG w0 w2 R N5) (hK:dU (fun k=>k=R\/k=M) w w2) (Ow:R≠M) (OY:w0.heap.size <=M)
  (hc:(u.cells m).setIfInBounds i v=u'.cells m') (hw:m'.words) (hi:eo (mask (jO B) (w2.setCell ⟨M,i,none⟩ v)) u m ->eo (mask (jO B) (w2.setCell ⟨M,i,none⟩ v)) u' m') (h1:gO (jo no m) st m') (h2:et (jo no m) st=N5):
  kY w0 w R M B no st m (.returned (.tuple #[])) (w2.setCell ⟨M,i,none⟩ v):=by
 have Lx:=ei w2 M i v;refine⟨u',m',rfl,hM.put hc hw hi,h1,?_,hK.trans Lx (fun _ h=> .inl (.inr h))⟩;rw [h2];exact hH.keeps Lx (fun h=>Ow h) (fun i hi=>by subst hi;exact OY)
theorem Es:pY 1 1/\pY 2 2/\pY 3 3/\pY 6 6/\pY 7 7/\pY 9 9/\pY 10 10/\pY 11 11:=by
 refine⟨?_,?_,?_,?_,?_,?_,?_,?_⟩
 all_goals
  intro n MR w0 w R M B st u m h hm RH Ow OY;have Oc:=h.lt;have Pb:=(an w.heap.size w).alloc (ag _) (.cells #[.pointer (some ⟨R,0,none⟩)] 193);have HH:=V (h.below Pb);have HM:=V (hm.below Pb);have HM0:=V hm;have HA:=V (eD.new w #[.pointer (some ⟨R,0,none⟩)] 193);have HK:=V ((dU.refl (fun k=>k=R\/k=M) w).alloc (.cells #[.pointer (some ⟨R,0,none⟩)] 193));have a0:=HA.out.cell 0;simp only [aM,aJ]at a0;clear h hm Pb;go_enter func123,ntmps123;go_wp2_with fail;clear a0;have hMB:M < B:=HM.out.2.2.2.1;have hBw:B <=w.heap.size:=HM0.out.2.2.2.2;generalize w.alloc (.cells #[.pointer (some ⟨R,0,none⟩)] 193)=wa at HH HM HA HK⊢;have hB2:B <=wa.heap.size:=HM.out.2.2.2.2
  first
  | (have:n=1:=MR;refine(I2 w0 R pe (fun _=>True) xc st wa 206 #[.pointer (some ⟨R,0,none⟩)] #[] (fun _ _=>by rfl) HH.out (fun s w1 h _=>Em w0 w1 R s h)).mono ?_)
  | (have:n=2:=MR;refine(Ja w0 R ua jD.fits zQ st wa 208 #[.pointer (some ⟨R,0,none⟩)] #[] (fun _ _=>by rfl) HH.out (fun s w1 h _=>BY w0 w1 R s h)).mono ?_)
  | (have:n=3:=MR;refine(nD w0 R vz iR og st wa 122 #[.pointer (some ⟨R,0,none⟩)] #[] (fun _ _=>by rfl) HH.out (fun s w1 h _=>Gb w0 w1 R s h)).mono ?_)
  | (have:n=6:=MR;refine(I3 w0 R oT (fun x=>x.init.ok) wz st wa 212 #[.pointer (some ⟨R,0,none⟩)] #[] (fun _ _=>by rfl) HH.out (fun s w1 h _=>BA w0 w1 R s h)).mono ?_)
  | (have:n=7:=MR;refine(IC w0 R uw iU.fits zE st wa 214 #[.pointer (some ⟨R,0,none⟩)] #[] (fun _ _=>by rfl) HH.out (fun s w1 h _=>BT w0 w1 R s h)).mono ?_)
  | (have:n=9:=MR;refine(Iz w0 R pd (fun _=>True) xe st wa 216 #[] #[.pointer (some ⟨w.heap.size,0,none⟩)] (fun _ _=>by rfl) HH.out (fun s w1 h hk=>JZ w0 w1 R w.heap.size s h (HA.out.keeps hk (by omega)) Oc)).mono ?_)
  | (have:n=10:=MR;refine(H9 w0 R lM (fun _=>True) wD st wa 219 #[.pointer (some ⟨R,0,none⟩)] #[] (fun _ _=>by rfl) HH.out (fun s w1 h _=>EY w0 w1 R s h)).mono ?_)
  | (have:n=11:=MR;refine(Hr w0 R uk (fun _=>True) zK st wa 221 #[] #[.pointer (some ⟨w.heap.size,0,none⟩)] (fun _ _=>by rfl) HH.out (fun s w1 h hk=>Kc w0 w1 R w.heap.size s h (HA.out.keeps hk (by omega)) Oc)).mono ?_)
  rintro e w2 ⟨v,l,rfl,ho,hp,hl,hw,hh,hk⟩
  first
  | (have:n=2:=MR;obtain⟨a,cap,rfl,-,-⟩:=ho.slice)
  | (have:n=3:=MR;obtain⟨a,cap,rfl,-,-⟩:=ho.slice)
  | (have:n=6:=MR;obtain⟨a,cap,rfl,-,-⟩:=ho.slice)
  | (have:n=7:=MR;obtain⟨a,cap,rfl,-,-⟩:=ho.slice)
  | (have:n=1:=MR;obtain⟨a,cap,rfl,-,-⟩:=ef.slice (eZ.low vi (fun _ _ _ _ he h=>h.ext he) ho))
  | (have:n=9:=MR;obtain⟨a,cap,rfl,-,-⟩:=ef.slice (eZ.low um (fun _ _ _ _ he h=>h.ext he) ho))
  | (have:n=10:=MR;obtain⟨a,cap,rfl,-,-⟩:=ef.slice (eZ.low tG (fun _ _ _ _ he h=>h.ext he) ho))
  | (have:n=11:=MR;obtain⟨a,cap,rfl,-,-⟩:=ef.slice (eZ.low rW (fun _ _ _ _ he h=>h.ext he) ho))
  have HO:=V ho;have HP:=V hp;have HW:=V hw;have HH:=V hh;have MU:=V (HM.out.keeps hk (fun i hi=> .inl (by omega)) (fun h=>Ow h.symm));have HK:=V (HK.out.trans hk (fun _ h=> .inl (.inl h)));have x0:=MU.out.1.cell 0;have z0:=MU.out.1.free 0;have x1:=MU.out.1.cell 1;have z1:=MU.out.1.free 1;have x2:=MU.out.1.cell 2;have z2:=MU.out.1.free 2;have x9:=MU.out.1.cell 9;have z9:=MU.out.1.free 9;have x10:=MU.out.1.cell 10;have z10:=MU.out.1.free 10;have x11:=MU.out.1.cell 11;have z11:=MU.out.1.free 11;have x12:=MU.out.1.cell 12;have z12:=MU.out.1.free 12;have x13:=MU.out.1.cell 13;have z13:=MU.out.1.free 13;simp only [eE.cells,aM,aJ,aT]at x0 x1 x2 x9 x10 x11 x12 x13;clear ho hp hw hh hk;go_wp2
  go_end0
  first
  | (have:n=1:=MR;exact kY.of (u':={u with types:= .slice a l.length cap}) (m':={m with types:=l}) MU.out HH.out HK.out Ow OY rfl MU.out.2.2.1 (fun⟨h1,h2,h3,h4,h5,h6,h7,h8,k1,k2,k3,k4,k5,k6⟩=>⟨tm vi (fun _ _ _ _ he h=>h.ext he) HO.out hB2 hMB,h2,h3,h4,h5,h6,h7,h8,k1,k2,k3,k4,k5,k6⟩) (by rw [Ft];exact fo (f:=fun x=>{m with types:=x}) HW.out) (by rw [Ft,fh]))
  | (have:n=2:=MR;exact kY.of (u':={u with imports:= .slice a l.length cap}) (m':={m with imports:=l}) MU.out HH.out HK.out Ow OY rfl ⟨IT HP.out,MU.out.2.2.1.2⟩ (fun⟨h1,h2,h3,h4,h5,h6,h7,h8,k1,k2,k3,k4,k5,k6⟩=>⟨h1,sX zB HO.out hB2 hMB,h3,h4,h5,h6,h7,h8,fun x hx=>(HP.out x hx).2.2,k2,k3,k4,k5,k6⟩) (by rw [G4];exact fo (f:=fun x=>{m with imports:=x}) HW.out) (by rw [G4,fh]))
  | (have:n=3:=MR;exact kY.of (u':={u with funcs:= .slice a l.length cap}) (m':={m with funcs:=l}) MU.out HH.out HK.out Ow OY rfl MU.out.2.2.1 (fun⟨h1,h2,h3,h4,h5,h6,h7,h8,k1,k2,k3,k4,k5,k6⟩=>⟨h1,h2,sX fm HO.out hB2 hMB,h4,h5,h6,h7,h8,k1,HP.out,k3,k4,k5,k6⟩) (by rw [FH];exact fo (f:=fun x=>{m with funcs:=x}) HW.out) (by rw [FH,fh]))
  | (have:n=6:=MR;exact kY.of (u':={u with globals:= .slice a l.length cap}) (m':={m with globals:=l}) MU.out HH.out HK.out Ow OY rfl MU.out.2.2.1 (fun⟨h1,h2,h3,h4,h5,h6,h7,h8,k1,k2,k3,k4,k5,k6⟩=>⟨h1,h2,h3,sX Ai HO.out hB2 hMB,h5,h6,h7,h8,k1,k2,k3,k4,HP.out,k6⟩) (by rw [Gc];exact fo (f:=fun x=>{m with globals:=x}) HW.out) (by rw [Gc,fh]))
  | (have:n=7:=MR;exact kY.of (u':={u with dY:= .slice a l.length cap}) (m':={m with dY:=l}) MU.out HH.out HK.out Ow OY rfl ⟨MU.out.2.2.1.1,It HP.out⟩ (fun⟨h1,h2,h3,h4,h5,h6,h7,h8,k1,k2,k3,k4,k5,k6⟩=>⟨h1,h2,h3,h4,sX yV HO.out hB2 hMB,h6,h7,h8,k1,k2,k3,k4,k5,fun x hx=>(HP.out x hx).2⟩) (by rw [E0];exact fo (f:=fun x=>{m with dY:=x}) HW.out) (by rw [E0,fh]))
  | (have:n=9:=MR;exact kY.of (u':={u with elems:= .slice a l.length cap}) (m':={m with elems:=l}) MU.out HH.out HK.out Ow OY rfl MU.out.2.2.1 (fun⟨h1,h2,h3,h4,h5,h6,h7,h8,k1,k2,k3,k4,k5,k6⟩=>⟨h1,h2,h3,h4,h5,tm um (fun _ _ _ _ he h=>h.ext he) HO.out hB2 hMB,h7,h8,k1,k2,k3,k4,k5,k6⟩) (by rw [Gd];exact fo (f:=fun x=>{m with elems:=x}) HW.out) (by rw [Gd,fh]))
  | (have:n=10:=MR;exact kY.of (u':={u with eh:= .slice a l.length cap}) (m':={m with eh:=l}) MU.out HH.out HK.out Ow OY rfl MU.out.2.2.1 (fun⟨h1,h2,h3,h4,h5,h6,h7,h8,k1,k2,k3,k4,k5,k6⟩=>⟨h1,h2,h3,h4,h5,h6,tm tG (fun _ _ _ _ he h=>h.ext he) HO.out hB2 hMB,h8,k1,k2,k3,k4,k5,k6⟩) (by rw [BG];exact fo (f:=fun x=>{m with eh:=x}) HW.out) (by rw [BG,fh]))
  | (have:n=11:=MR;exact kY.of (u':={u with eA:= .slice a l.length cap}) (m':={m with eA:=l}) MU.out HH.out HK.out Ow OY rfl MU.out.2.2.1 (fun⟨h1,h2,h3,h4,h5,h6,h7,h8,k1,k2,k3,k4,k5,k6⟩=>⟨h1,h2,h3,h4,h5,h6,h7,tm rW (fun _ _ _ _ he h=>h.ext he) HO.out hB2 hMB,k1,k2,k3,k4,k5,k6⟩) (by rw [AP];exact fo (f:=fun x=>{m with eA:=x}) HW.out) (by rw [AP,fh]))
theorem FR:pY 4 4/\pY 5 5:=by
 refine⟨?_,?_⟩
 all_goals
  intro n MR w0 w R M B st u m h hm RH Ow OY;have Oc:=h.lt;have Pb:=(an w.heap.size w).alloc (ag _) (.cells #[.pointer (some ⟨R,0,none⟩)] 193);have HH:=V (h.below Pb);have HM:=V (hm.below Pb);have HM0:=V hm;have HA:=V (eD.new w #[.pointer (some ⟨R,0,none⟩)] 193);have HK:=V ((dU.refl (fun k=>k=R\/k=M) w).alloc (.cells #[.pointer (some ⟨R,0,none⟩)] 193));have a0:=HA.out.cell 0;simp only [aM,aJ]at a0;clear h hm Pb;go_enter func123,ntmps123;go_wp2_with fail;clear a0;have hMB:M < B:=HM.out.2.2.2.1;have hBw:B <=w.heap.size:=HM0.out.2.2.2.2;generalize w.alloc (.cells #[.pointer (some ⟨R,0,none⟩)] 193)=wa at HH HM HA HK⊢;have hB2:B <=wa.heap.size:=HM.out.2.2.2.2
  first
  | (have:n=4:=MR;refine(sw w0 wa R true st HH.out).mono ?_)
  | (have:n=5:=MR;refine(sw w0 wa R false st HH.out).mono ?_)
  rintro e w2 ⟨x,rfl,LF,hw,hh,hk⟩;have Mv:=V LF;have HW:=V hw;have HH:=V hh;have MU:=V (HM.out.keeps hk (fun i hi=> .inl (by omega)) (fun h=>Ow h.symm));have HK:=V (HK.out.trans hk (fun _ h=> .inl (.inl h)));have x3:=MU.out.1.cell 3;have z3:=MU.out.1.free 3;have x4:=MU.out.1.cell 4;have z4:=MU.out.1.free 4;have x5:=MU.out.1.cell 5;have z5:=MU.out.1.free 5;have x6:=MU.out.1.cell 6;have z6:=MU.out.1.free 6;have x7:=MU.out.1.cell 7;have z7:=MU.out.1.free 7;have x8:=MU.out.1.cell 8;have z8:=MU.out.1.free 8;simp only [eE.cells,aM,aJ,aT]at x3 x4 x5 x6 x7 x8;clear LF hw hh hk;go_wp2
  go_end0
  first
  | (have:n=4:=MR
     obtain⟨hmd,Lx⟩:=nu.vr (u':=u) (m':={m with table:=x}) (i:=3) (v0:= .bool x.has) (v1:= .int .i64 x.min) (v2:= .int .i64 x.max) MU.out rfl MU.out.2.2.1 (fun w' ⟨h1,h2,h3,h4,h5,h6,h7,h8,k1,k2,k3,k4,k5,k6⟩=>⟨h1,h2,h3,h4,h5,h6,h7,h8,k1,k2,Mv.out,k4,k5,k6⟩);refine⟨u,{m with table:=x},rfl,hmd,?_,?_,HK.out.trans Lx (fun _ h=> .inl (.inr h))⟩
     ·rw [EE]
      intro y hy;have hz:gO (gK (fun x=>({m with table:=x}:eu)) (gK jF (fg kD))) st {m with table:=x}:=fo HW.out;refine hz y ?_;rw [<- hy];cases st with
      | none=>rfl
      | some q=>simp only [ao,gK];cases fg kD q <;>rfl
     ·rw [EE,fh]
      exact HH.out.keeps Lx (fun h=>Ow h) (fun i hi=>by subst hi;exact OY))
  | (have:n=5:=MR
     obtain⟨hmd,Lx⟩:=nu.vr (u':=u) (m':={m with mem:=x}) (i:=6) (v0:= .bool x.has) (v1:= .int .i64 x.min) (v2:= .int .i64 x.max) MU.out rfl MU.out.2.2.1 (fun w' ⟨h1,h2,h3,h4,h5,h6,h7,h8,k1,k2,k3,k4,k5,k6⟩=>⟨h1,h2,h3,h4,h5,h6,h7,h8,k1,k2,k3,Mv.out,k5,k6⟩);refine⟨u,{m with mem:=x},rfl,hmd,?_,?_,HK.out.trans Lx (fun _ h=> .inl (.inr h))⟩
     ·rw [EH]
      intro y hy;have hz:gO (gK (fun x=>({m with mem:=x}:eu)) (gK jF (fg fT))) st {m with mem:=x}:=fo HW.out;refine hz y ?_;rw [<- hy];cases st with
      | none=>rfl
      | some q=>simp only [ao,gK];cases fg fT q <;>rfl
     ·rw [EH,fh]
      exact HH.out.keeps Lx (fun h=>Ow h) (fun i hi=>by subst hi;exact OY))
theorem Kg (w0 w:World) (R M B:Nat) (no:Nat) (st:gA) (u:eE) (m:eu) (h:fG w0 w R st) (hm:nu B w M u m) (RH:R < B) (Ow:R≠M) (MR:no=0\/no=8\/11 < no):
  Calls prog 123 #[.pointer (some ⟨R,0,none⟩), .pointer (some ⟨M,0,none⟩), .int .i64 no] w (kY w0 w R M B no st m):=by
 have Pb:=(an w.heap.size w).alloc (ag _) (.cells #[.pointer (some ⟨R,0,none⟩)] 193);have HH:=V (h.below Pb);have HM:=V (hm.below Pb);have HA:=V (eD.new w #[.pointer (some ⟨R,0,none⟩)] 193);have HK:=V ((dU.refl (fun k=>k=R\/k=M) w).alloc (.cells #[.pointer (some ⟨R,0,none⟩)] 193));have a0:=HA.out.cell 0;simp only [aM,aJ]at a0;have c1:=HH.out.bad;have z1:=HH.out.free 1;have f1:((no:Int)==1)=false:=dR (by omega);have f2:((no:Int)==2)=false:=dR (by omega);have f3:((no:Int)==3)=false:=dR (by omega);have f4:((no:Int)==4)=false:=dR (by omega);have f5:((no:Int)==5)=false:=dR (by omega);have f6:((no:Int)==6)=false:=dR (by omega);have f7:((no:Int)==7)=false:=dR (by omega);have f9:((no:Int)==9)=false:=dR (by omega);have f10:((no:Int)==10)=false:=dR (by omega);have f11:((no:Int)==11)=false:=dR (by omega);have HNO:=V (fun l=>xg (n:=no) m l MR);clear h hm Pb MR;go_enter func123,ntmps123;go_wp2
 go_end0
 have Lx:=ei (w.alloc (.cells #[.pointer (some ⟨R,0,none⟩)] 193)) R 1 (.bool true);have hN:st.bind (jo no m)=none:=by
  cases st with
  | none=>rfl
  | some l=>exact HNO.out l
 refine⟨u,m,rfl,HM.out.keeps Lx (fun i hi=> .inl (by omega)) (fun h=>Ow h.symm),fun y hy=>(by rw [hN]at hy;cases hy),?_,HK.out.trans Lx (fun _ h=> .inl (.inl h))⟩;rw [show et (jo no m) st=none by unfold et;rw [hN];rfl];exact HH.out.fail
theorem zD (w0 w:World) (R M B:Nat) (no:Nat) (st:gA) (u:eE) (m:eu) (h:fG w0 w R st) (hm:nu B w M u m) (RH:R < B) (Ow:R≠M) (OY:w0.heap.size <=M):
  Calls prog 123 #[.pointer (some ⟨R,0,none⟩), .pointer (some ⟨M,0,none⟩), .int .i64 no] w (kY w0 w R M B no st m):=by
 by_cases MR:no=0\/no=8\/11 < no
 ·exact Kg w0 w R M B no st u m h hm RH Ow MR
 ·have h2:no=1\/no=2\/no=3\/no=4\/no=5\/no=6\/no=7\/no=9\/no=10\/no=11:=by omega
  obtain⟨c1,c2,c3,c6,c7,c9,c10,c11⟩:=Es;obtain⟨c4,c5⟩:=FR;rcases h2 with rfl | rfl | rfl | rfl | rfl | rfl | rfl | rfl | rfl | rfl
  ·exact c1 _ rfl w0 w R M B st u m h hm RH Ow OY
  ·exact c2 _ rfl w0 w R M B st u m h hm RH Ow OY
  ·exact c3 _ rfl w0 w R M B st u m h hm RH Ow OY
  ·exact c4 _ rfl w0 w R M B st u m h hm RH Ow OY
  ·exact c5 _ rfl w0 w R M B st u m h hm RH Ow OY
  ·exact c6 _ rfl w0 w R M B st u m h hm RH Ow OY
  ·exact c7 _ rfl w0 w R M B st u m h hm RH Ow OY
  ·exact c9 _ rfl w0 w R M B st u m h hm RH Ow OY
  ·exact c10 _ rfl w0 w R M B st u m h hm RH Ow OY
  ·exact c11 _ rfl w0 w R M B st u m h hm RH Ow OY
def IY (l:List UInt8) (w:World) (e:Ending) (w':World):Prop:=e= .returned (.bool (l.take 8==fw))/\w'=w
theorem Be (l:List UInt8) (n:Nat):(bs l).extract 0 n=bs (l.take n):=by
 apply ByteArray.ext;simp [bs]
theorem vF (l:List UInt8) (hl:l.length <=1000000) (w:World):Calls prog 119 #[.string (bs l), .string (bs fw)] w (IY l w):=by
 have hs:(bs l).size=l.length:=Cp l;have hh:(bs fw).size=8:=rfl;by_cases q:8 <=l.length
 ·have f1:decide ((8:Int) <=(l.length:Int))=true:=ay (by omega)
  have f2:decide (8 <=l.length)=true:=ay q;have he:=Be l 8;go_enter func119,ntmps119;go_wp2;go_ret;refine⟨?_,rfl⟩;show Ending.returned (.bool ((bs (l.take 8)).toList==(bs fw).toList))=_;rw [kU,kU]
 ·have f1:decide ((8:Int) <=(l.length:Int))=false:=aw (by omega)
  have f2:decide (8 <=l.length)=false:=aw q;go_enter func119,ntmps119;go_wp2;go_ret;refine⟨?_,rfl⟩;have h:(l.take 8==fw)=false:=beq_eq_false_iff_ne.2 (fun h=>by
   have:=cU List.length h;rw [aP,show fw.length=8 from rfl]at this;omega)
  rw [h];rfl
def qu (l:List UInt8):Option eu:=(lX l).bind fun m=>if m.may/\fA m=l then some m else none
def u0:eE:=⟨.slice none 0 0, .slice none 0 0, .slice none 0 0, .slice none 0 0, .slice none 0 0, .slice none 0 0, .slice none 0 0, .slice none 0 0⟩
theorem sb (w:World):eo w u0 m0:=
 ⟨ef.nil _,ee.nil _,ee.nil _,ee.nil _,ee.nil _,ef.nil _,ef.nil _,ef.nil _,by simp [m0],by simp [m0],nL,nL,by simp [m0],by simp [m0]⟩
theorem GH:m0.words:=⟨by simp [m0],by simp [m0]⟩
def Iw (l:List UInt8) (w:World) (e:Ending) (w':World):Prop:=
 Below w.heap.size w w'/\((∃u m,qu l=some m/\e= .returned (.tuple #[.agg (u.cells m), .int .i64 0])/\eo (mask (jO w.heap.size) w') u m/\m.words)\/
  (qu l=none/\e= .returned (.tuple #[.agg (u0.cells m0), .int .i64 (if 8000 < l.length then 4 else 1)])))
theorem DG {c:UInt8} {rest:List UInt8} {f:Nat} {m m':eu} (hw:gO (jo c.toNat m) (et fX (some rest)) m'):
  (some (c::rest):gA).bind (nM (f+1) m)=(et (jo c.toNat m) (et fX (some rest))).bind (nM f m'):=by
 simp only [ao,nM];cases h:fX rest with
 | none=>simp [et,h]
 | some k=>
  have h2:et fX (some rest)=some k.2:=by simp [et,h]
  rw [h2]at hw⊢;simp only [ao];cases h3:jo c.toNat m k.2 with
  | none=>simp [et,h3]
  | some x=>
   have:=hw x (by simpa using h3);subst this;simp [et,h3]
theorem vN {l:List UInt8} (hl:l.length <=8000):lX l=(il 8 true (if(l.take 8==fw)=true then some l else none)).bind (nM (l.length+1) m0):=by
 unfold lX;rw [az (by omega)];by_cases q:l.take 8=fw
 ·have h8:8 <=l.length:=by
   have:=cU List.length q;rw [aP,show fw.length=8 from rfl]at this;omega
  rw [aD q,aD (by simp [q])];simp [il,h8]
 ·rw [az q,az (by simp [q])]
  rfl
def GY (w:World) (R:Nat):Nat:=match w.cell? ⟨R,1,none⟩,w.cell? ⟨R,0,none⟩with
 | some (.bool false),some (.slice _ n _)=>n+1
 | _,_=>0
theorem fG.left {w0 w:World} {R:Nat} {s:gA} (h:fG w0 w R s):GY w R=s.len:=by
 obtain⟨a,l,cap,bad,h1,h2,h3,h4,h5,h6⟩:=h;subst h4;unfold GY;rw [h1.cell 1,h1.cell 0];cases bad <;>rfl
def KO (l:List UInt8) (X M R B:Nat) (w w':World) (u:eE) (m:eu) (s:gA) (f:Nat):Prop:=
 lX l=s.bind (nM f m)/\s.len <=f/\fG w w' R s/\nu B w' M u m/\eD w' X (u0.cells m0) 35/\Below w.heap.size w w'
theorem eD.mh {w:World} {X:Nat} {u:eE} {m:eu} {t:TypeId} (h:eD w X (u.cells m) t):(loadVar 35 ⟨X,0,none⟩).run prog w= .ok (.agg (u.cells m)) w:=by
 have hs:(prog.underlying 35).map (fun d=>match d with | .struct _ | .array _ _=>true | _=>false)=some true:=by kernel_rfl
 obtain⟨d,h1,h2⟩:=bu.1 hs;exact bU w X t 35 _ _ d h h1 (by cases d <;>first | rfl | (exfalso;simp at h2)) (by kernel_rfl)
def ox (w:World) (X:Nat) (u:eE) (m:eu):World:=
 (((((((((((((w.setCell ⟨X,0,none⟩ u.types).setCell ⟨X,1,none⟩ u.imports).setCell ⟨X,2,none⟩ u.funcs).setCell ⟨X,3,none⟩ (.bool m.table.has)).setCell ⟨X,4,none⟩ (.int .i64 m.table.min)).setCell ⟨X,5,none⟩ (.int .i64 m.table.max)).setCell ⟨X,6,none⟩ (.bool m.mem.has)).setCell ⟨X,7,none⟩ (.int .i64 m.mem.min)).setCell ⟨X,8,none⟩ (.int .i64 m.mem.max)).setCell ⟨X,9,none⟩ u.globals).setCell ⟨X,10,none⟩ u.dY).setCell ⟨X,11,none⟩ u.elems).setCell ⟨X,12,none⟩ u.eh).setCell ⟨X,13,none⟩ u.eA
theorem kk (w:World) (X:Nat) (u:eE) (m:eu):dU (fun k=>k=X) w (ox w X u m):=by
 have st:∀{a b:World} (i:Nat) (v:Value),dU (fun k=>k=X) a b ->dU (fun k=>k=X) a (b.setCell ⟨X,i,none⟩ v):=fun i v h=>h.trans (ei _ X i v) (fun _ h=> .inl h);exact st _ _ (st _ _ (st _ _ (st _ _ (st _ _ (st _ _ (st _ _ (st _ _ (st _ _ (st _ _ (st _ _ (st _ _ (st _ _ (st _ _ (dU.refl _ _))))))))))))))
theorem eD.ox {w:World} {X:Nat} {u':eE} {m':eu} {t:TypeId} (h:eD w X (u'.cells m') t) (u:eE) (m:eu):eD (ox w X u m) X (u.cells m) t:=by
 have h1:=(((((((((((((h.set 0 u.types).set 1 u.imports).set 2 u.funcs).set 3 (.bool m.table.has)).set 4 (.int .i64 m.table.min)).set 5 (.int .i64 m.table.max)).set 6 (.bool m.mem.has)).set 7 (.int .i64 m.mem.min)).set 8 (.int .i64 m.mem.max)).set 9 u.globals).set 10 u.dY).set 11 u.elems).set 12 u.eh).set 13 u.eA;simp only [eE.cells,aW,bz,bC]at h1;exact h1
theorem eD.uW {w:World} {X:Nat} {xs:Array Value} {t:TypeId} (h:eD w X xs t):w.frozen? ⟨X,0,none⟩=false/\w.frozen? ⟨X,1,none⟩=false/\w.frozen? ⟨X,2,none⟩=false/\w.frozen? ⟨X,3,none⟩=false/\w.frozen? ⟨X,4,none⟩=false/\w.frozen? ⟨X,5,none⟩=false/\w.frozen? ⟨X,6,none⟩=false/\w.frozen? ⟨X,7,none⟩=false/\w.frozen? ⟨X,8,none⟩=false/\w.frozen? ⟨X,9,none⟩=false/\w.frozen? ⟨X,10,none⟩=false/\w.frozen? ⟨X,11,none⟩=false/\w.frozen? ⟨X,12,none⟩=false/\w.frozen? ⟨X,13,none⟩=false:=
 ⟨h.free 0,h.free 1,h.free 2,h.free 3,h.free 4,h.free 5,h.free 6,h.free 7,h.free 8,h.free 9,h.free 10,h.free 11,h.free 12,h.free 13⟩
theorem qN (b:Value) (l:List UInt8) (w:World) (hb:eG w b l) (OV:l.length <=1000000):Calls prog 80 #[b] w (Iw l w):=by
 have HB:=V hb;obtain⟨a,cap,rfl,L7,NG,-⟩:=id hb;clear hb;by_cases q:8000 < l.length
 ·have f1:decide ((8000:Int) < (l.length:Int))=true:=ay (by omega)
  have f2:decide (8000 < l.length)=true:=ay q;have HX:=V (show eD (w.alloc (.cells (u0.cells m0) 35)) w.heap.size (u0.cells m0) 35 from eD.new w _ _);have HD:=V (show qu l=none by simp [qu,lX,q]);go_enter func80,ntmps80;obtain⟨p0,p1,p2,p3,p4,p5,p6,p7,p8,p9,p10,p11,p12,p13⟩:=HX.out.mod;obtain⟨q0,q1,q2,q3,q4,q5,q6,q7,q8,q9,q10,OX,q12,q13⟩:=HX.out.uW;go_wp2_with fail;refine aF (eY rfl _ _ rfl HX.out.mh) rfl ?_;exact⟨(an _ _).alloc (ag _) _, .inr ⟨HD.out,by rw [aD q];rfl⟩⟩
 have f1:decide ((8000:Int) < (l.length:Int))=false:=aw (by omega);have f2:decide (8000 < l.length)=false:=aw q;have Lz:=V (vN (l:=l) (by omega));have Lw:Below w.heap.size w ((w.alloc (.cells #[.slice none 0 0, .slice none 0 0, .slice none 0 0, .bool false, .int .i64 0, .int .i64 0, .bool false, .int .i64 0, .int .i64 0, .slice none 0 0, .slice none 0 0, .slice none 0 0, .slice none 0 0, .slice none 0 0] 35)).alloc (.cells #[.slice none 0 0, .slice none 0 0, .slice none 0 0, .bool false, .int .i64 0, .int .i64 0, .bool false, .int .i64 0, .int .i64 0, .slice none 0 0, .slice none 0 0, .slice none 0 0, .slice none 0 0, .slice none 0 0] 35)):=((an _ _).alloc (ag _) _).alloc (by rw [aC];omega) _;have hstr:=pO (HB.out.below Lw);clear Lw;go_enter func80,ntmps80;go_wp2_with fail;refine(vF l OV _).mono ?_;rintro e w1 ⟨rfl,rfl⟩;obtain⟨pb,hpb⟩:∃pb,(l.take 8==fw)=pb:=⟨_,rfl⟩;rw [hpb];rw [hpb]at Lz;clear hpb hstr;go_wp2_with fail;obtain⟨bad,hbad⟩:∃bad,(!pb)=bad:=⟨_,rfl⟩;rw [hbad];have Lz:=V (show lX l=(il 8 true (if bad=true then none else some l)).bind (nM (l.length+1) m0)by
  rw [Lz.out, <- hbad];cases pb <;>rfl)
 clear hbad;have hX:=eD.new w #[.slice none 0 0, .slice none 0 0, .slice none 0 0, .bool false, .int .i64 0, .int .i64 0, .bool false, .int .i64 0, .int .i64 0, .slice none 0 0, .slice none 0 0, .slice none 0 0, .slice none 0 0, .slice none 0 0] 35;have hM:=eD.new (w.alloc (.cells #[.slice none 0 0, .slice none 0 0, .slice none 0 0, .bool false, .int .i64 0, .int .i64 0, .bool false, .int .i64 0, .int .i64 0, .slice none 0 0, .slice none 0 0, .slice none 0 0, .slice none 0 0, .slice none 0 0] 35)) #[.slice none 0 0, .slice none 0 0, .slice none 0 0, .bool false, .int .i64 0, .int .i64 0, .bool false, .int .i64 0, .int .i64 0, .slice none 0 0, .slice none 0 0, .slice none 0 0, .slice none 0 0, .slice none 0 0] 35;have hR:=eD.new ((w.alloc (.cells #[.slice none 0 0, .slice none 0 0, .slice none 0 0, .bool false, .int .i64 0, .int .i64 0, .bool false, .int .i64 0, .int .i64 0, .slice none 0 0, .slice none 0 0, .slice none 0 0, .slice none 0 0, .slice none 0 0] 35)).alloc (.cells #[.slice none 0 0, .slice none 0 0, .slice none 0 0, .bool false, .int .i64 0, .int .i64 0, .bool false, .int .i64 0, .int .i64 0, .slice none 0 0, .slice none 0 0, .slice none 0 0, .slice none 0 0, .slice none 0 0] 35)) #[.slice a l.length cap, .bool bad] 196;have hX:=(hX.alloc (.cells #[.slice none 0 0, .slice none 0 0, .slice none 0 0, .bool false, .int .i64 0, .int .i64 0, .bool false, .int .i64 0, .int .i64 0, .slice none 0 0, .slice none 0 0, .slice none 0 0, .slice none 0 0, .slice none 0 0] 35)).alloc (.cells #[.slice a l.length cap, .bool bad] 196);have hM:=hM.alloc (.cells #[.slice a l.length cap, .bool bad] 196);have hBW:Below w.heap.size w (((w.alloc (.cells #[.slice none 0 0, .slice none 0 0, .slice none 0 0, .bool false, .int .i64 0, .int .i64 0, .bool false, .int .i64 0, .int .i64 0, .slice none 0 0, .slice none 0 0, .slice none 0 0, .slice none 0 0, .slice none 0 0] 35)).alloc (.cells #[.slice none 0 0, .slice none 0 0, .slice none 0 0, .bool false, .int .i64 0, .int .i64 0, .bool false, .int .i64 0, .int .i64 0, .slice none 0 0, .slice none 0 0, .slice none 0 0, .slice none 0 0, .slice none 0 0] 35)).alloc (.cells #[.slice a l.length cap, .bool bad] 196)):=(((an _ _).alloc (ag _) _).alloc (by rw [aC];omega) _).alloc (by rw [aC,aC];omega) _;rw [aC]at hM;rw [aC,aC]at hR;generalize((w.alloc (.cells #[.slice none 0 0, .slice none 0 0, .slice none 0 0, .bool false, .int .i64 0, .int .i64 0, .bool false, .int .i64 0, .int .i64 0, .slice none 0 0, .slice none 0 0, .slice none 0 0, .slice none 0 0, .slice none 0 0] 35)).alloc (.cells #[.slice none 0 0, .slice none 0 0, .slice none 0 0, .bool false, .int .i64 0, .int .i64 0, .bool false, .int .i64 0, .int .i64 0, .slice none 0 0, .slice none 0 0, .slice none 0 0, .slice none 0 0, .slice none 0 0] 35)).alloc (.cells #[.slice a l.length cap, .bool bad] 196)=wa at hX hM hR hBW⊢;have Nm:fG w wa (w.heap.size+1+1) (if bad=true then none else some l):=⟨a,l,cap,bad,hR,HB.out,by omega,rfl,hBW,by omega⟩;have hmd:nu (w.heap.size+3) wa (w.heap.size+1) u0 m0:=⟨hM,sb _,GH,by omega,by have:=hR.lt;omega⟩;have Ms:=V Nm;have Qd:=V hmd;have HX:=V (show eD wa w.heap.size (u0.cells m0) 35 from hX);have L5:=V hBW;clear hX hM hR hBW Nm hmd;refine(kt w wa _ _ 8 true (by omega) Ms.out).mono ?_;rintro e w1 ⟨rfl,h1,Oa⟩;have Ms:=V h1;have Qd:=V (Qd.out.keeps Oa (fun i hi=> .inl (by omega)) (by omega));have HX:=V (HX.out.keeps Oa (by omega));have L5:=V (L5.out.trans (Oa.below L5.out.size (fun i hi=>by omega)));have hlen:(il 8 true (if bad=true then none else some l)).len <=l.length+1:=by
  cases bad with
  | true=>exact bB _
  | false=>
   simp only [il,bW,dD,ao];split
   ·simp only [gA.len,bg];omega
   ·exact bB _
 clear h1 Oa;go_wp2_with fail;refine eC (fun a' w'=>∃(u:eE) (m:eu) (s:gA) (f:Nat),a'=fr (.slice a l.length cap::gs a' 1 1 (.pointer (some ⟨w.heap.size,0,none⟩):: .int .i64 0:: .pointer (some ⟨w.heap.size+1,0,none⟩):: .pointer (some ⟨w.heap.size+1+1,0,none⟩)::gs a' 6 53 []))/\KO l w.heap.size (w.heap.size+1) (w.heap.size+1+1) (w.heap.size+3) w w' u m s f) (fun _ w'=>GY w' (w.heap.size+1+1)) ?_ ?_
 ·exact⟨u0,m0,_,l.length+1,rfl,Lz.out,hlen,Ms.out,Qd.out,HX.out,L5.out⟩
 ·skip
  clear Lz hlen Ms Qd HX L5 w1;rintro R a' w1 ⟨u,m,s,f',Lv,hJ⟩ HR;dsimp only [fr,gs]at Lv;generalize slot a'=f at Lv;subst Lv;obtain⟨O7,hlen,Nm,hmd,hx,Qi⟩:=hJ;have Nx:=V O7;have Ms:=V Nm;have Qd:=V hmd;have HX:=V hx;have L5:=V Qi;have c1:=Nm.bad;clear O7 hmd hx Qi;cases s with
  | none=>
   have c1:w1.cell? ⟨w.heap.size+1+1,1,none⟩=some (.bool true):=c1;obtain⟨ar,lr,PQ,badr,LN,-,-,-,-,-⟩:=Nm;have c0:w1.cell? ⟨w.heap.size+1+1,0,none⟩=some (.slice ar lr.length PQ):=LN.cell 0;have HD:=V (show qu l=none by rw [qu,Nx.out];rfl);clear LN hlen;by_cases q2:0 < lr.length
   ·have g1:decide ((0:Int) < (lr.length:Int))=true:=ay (by omega)
    have g2:decide (0 < lr.length)=true:=ay q2;clear q2;obtain⟨p0,p1,p2,p3,p4,p5,p6,p7,p8,p9,p10,p11,p12,p13⟩:=HX.out.mod;obtain⟨q0,q1,q2,q3,q4,q5,q6,q7,q8,q9,q10,OX,q12,q13⟩:=HX.out.uW;go_wp2_with fail;have hx:=(HX.out.ox u0 m0).mh;have Lx:=kk w1 w.heap.size u0 m0;refine aF (eY rfl _ _ rfl hx) rfl ?_;exact⟨L5.out.trans (Lx.below L5.out.size (fun i hi=>by omega)), .inr ⟨HD.out,by rw [az (by omega)];rfl⟩⟩
   ·have g1:decide ((0:Int) < (lr.length:Int))=false:=aw (by omega)
    have g2:decide (0 < lr.length)=false:=aw q2;clear q2;obtain⟨p0,p1,p2,p3,p4,p5,p6,p7,p8,p9,p10,p11,p12,p13⟩:=HX.out.mod;obtain⟨q0,q1,q2,q3,q4,q5,q6,q7,q8,q9,q10,OX,q12,q13⟩:=HX.out.uW;go_wp2_with fail;have hx:=(HX.out.ox u0 m0).mh;have Lx:=kk w1 w.heap.size u0 m0;refine aF (eY rfl _ _ rfl hx) rfl ?_;exact⟨L5.out.trans (Lx.below L5.out.size (fun i hi=>by omega)), .inr ⟨HD.out,by rw [az (by omega)];rfl⟩⟩
  | some lb=>
   have c1:w1.cell? ⟨w.heap.size+1+1,1,none⟩=some (.bool false):=c1;obtain⟨ar,PQ,c0,-,hlb⟩:=Nm.some;clear Nm;cases lb with
   | nil=>
    have c0:w1.cell? ⟨w.heap.size+1+1,0,none⟩=some (.slice ar 0 PQ):=c0;have hm:lX l=some m:=by
     rw [Nx.out];obtain⟨f2,rfl⟩:∃f2,f'=f2+1:=⟨f' - 1,by simp only [gA.len,aL]at hlen;omega⟩;rfl
    have HMR:=V hm;have Pr:=V Qd.out.2.1;obtain⟨a0,k0,a1,k1,a2,k2,a3,k3,a4,k4,a5,k5,a6,k6,a7,k7,rfl⟩:=eo.open Qd.out.2.1;have HMC:=V Qd.out.1;have Q7:=V Qd.out.2.2.1;have HMI:=V (eo.fK Qd.out.2.1);clear hm hlen Nx Qd Ms hlb;obtain⟨g0,g1,g2,g3,g4,g5,g6,g7,g8,g9,L8,Mb,Mc,Md⟩:=HMC.out.mod;go_wp2_with fail;refine(nQ m ⟨.slice a0 m.types.length k0, .slice a1 m.imports.length k1, .slice a2 m.funcs.length k2, .slice a3 m.globals.length k3, .slice a4 m.dY.length k4, .slice a5 m.elems.length k5, .slice a6 m.eh.length k6, .slice a7 m.eA.length k7⟩ w1 HMI.out Q7.out).mono ?_;rintro e w2 ⟨v,rfl,hv,hb⟩;have HX:=V (HX.out.below hb HX.out.lt);have HMC:=V (HMC.out.below hb HMC.out.lt);have L5:=V (L5.out.trans (hb.mono L5.out.size));have Pr:=V (eo.below Pr.out (A0 hb));have M8:=HB.out.below L5.out;clear g0 g1 g2 g3 g4 g5 g6 g7 g8 g9 L8 Mb Mc Md c0 c1 hb;rcases hv with⟨MT,rfl⟩ | ⟨MT,hv⟩
    ·have HD:=V (show qu l=none by rw [qu,HMR.out];simp [MT])
     have e1:=bK (P:=prog) w2 104 5 none 0 0 0 0 (by kernel_rfl);rw [dg]at e1;clear MT M8;obtain⟨p0,p1,p2,p3,p4,p5,p6,p7,p8,p9,p10,p11,p12,p13⟩:=HX.out.mod;obtain⟨q0,q1,q2,q3,q4,q5,q6,q7,q8,q9,q10,OX,q12,q13⟩:=HX.out.uW;go_wp2_with fail;have hx:=(HX.out.ox u0 m0).mh;have Lx:=kk w2 w.heap.size u0 m0;refine aF (eY rfl _ _ rfl hx) rfl ?_;exact⟨L5.out.trans (Lx.below L5.out.size (fun i hi=>by omega)), .inr ⟨HD.out,by rw [az (by omega)];rfl⟩⟩
    ·obtain⟨av,cv,rfl,-,-,Lt⟩:=id hv
     obtain⟨bb,off,rfl,-⟩:=Lt 0 0 (by rw [fA];rfl);have e1:=bK (P:=prog) w2 104 5 (some ⟨bb,off,none⟩) (fA m).length cv 0 0 (by kernel_rfl);rw [df]at e1;have HV:=V hv;have LK:=V M8;have Ni:=V MT;clear Lt hv M8 MT;go_wp2_with fail;refine(sH _ _ _ _ w2 HV.out LK.out).mono ?_;rintro e w3 ⟨rfl,rfl⟩;by_cases q3:fA m=l
     ·have hq:(fA m==l)=true:=by simp [q3]
      rw [hq];have HD:=V (show qu l=some m by rw [qu,HMR.out];simp [Ni.out,q3]);clear q3 hq e1;obtain⟨p0,p1,p2,p3,p4,p5,p6,p7,p8,p9,p10,p11,p12,p13⟩:=HX.out.mod;obtain⟨q0,q1,q2,q3,q4,q5,q6,q7,q8,q9,q10,OX,q12,q13⟩:=HX.out.uW;obtain⟨g0,g1,g2,g3,g4,g5,g6,g7,g8,g9,L8,Mb,Mc,Md⟩:=HMC.out.mod;go_wp2_with fail;have hx:=(HX.out.ox ⟨.slice a0 m.types.length k0, .slice a1 m.imports.length k1, .slice a2 m.funcs.length k2, .slice a3 m.globals.length k3, .slice a4 m.dY.length k4, .slice a5 m.elems.length k5, .slice a6 m.eh.length k6, .slice a7 m.eA.length k7⟩ m).mh;have Lx:=kk w2 w.heap.size ⟨.slice a0 m.types.length k0, .slice a1 m.imports.length k1, .slice a2 m.funcs.length k2, .slice a3 m.globals.length k3, .slice a4 m.dY.length k4, .slice a5 m.elems.length k5, .slice a6 m.eh.length k6, .slice a7 m.eA.length k7⟩ m;refine aF (eY rfl _ _ rfl hx) rfl ?_;exact⟨L5.out.trans (Lx.below L5.out.size (fun i hi=>by omega)), .inl ⟨_,m,HD.out,rfl,eo.ext (eo.ext Pr.out (ni Lx (fun i hi=> .inl (by omega)) (.inl (ag _)))) (tW _ (by omega)),Q7.out⟩⟩
     ·have hq:(fA m==l)=false:=by simp [q3]
      rw [hq];have HD:=V (show qu l=none by rw [qu,HMR.out];simp [q3]);clear q3 hq e1;obtain⟨p0,p1,p2,p3,p4,p5,p6,p7,p8,p9,p10,p11,p12,p13⟩:=HX.out.mod;obtain⟨q0,q1,q2,q3,q4,q5,q6,q7,q8,q9,q10,OX,q12,q13⟩:=HX.out.uW;go_wp2_with fail;have hx:=(HX.out.ox u0 m0).mh;have Lx:=kk w2 w.heap.size u0 m0;refine aF (eY rfl _ _ rfl hx) rfl ?_;exact⟨L5.out.trans (Lx.below L5.out.size (fun i hi=>by omega)), .inr ⟨HD.out,by rw [az (by omega)];rfl⟩⟩
   | cons c rest=>
    obtain⟨L,hL⟩:∃L,L=c::rest:=⟨_,rfl⟩;have PX:0 < L.length:=by rw [hL];simp
    have HBV:=V (show mv (some L)=c by rw [hL];rfl);have HBN:=V (show et eV (some L)=some rest by rw [hL];rfl);have HL:=V hL;have QE:=c.toNat_lt;rw [<- hL]at c0 Ms hlen hlb Nx;have g1:decide ((0:Int) < (L.length:Int))=true:=ay (by omega);have g2:decide (0 < L.length)=true:=ay PX;have Qu:=V hlen;have HHR:=V (show fG w w1 (w.heap.size+1+1) (some L)from Ms.out);clear hL hlen;go_wp2_with fail;refine(iM w w1 _ _ Ms.out).mono ?_;rintro e w2 ⟨rfl,h2,LH⟩;rw [HBN.out]at h2;rw [HBV.out];have Ms:=V h2;have Qd:=V (Qd.out.keeps LH (fun i hi=> .inl (by omega)) (by omega));have HX:=V (HX.out.keeps LH (by omega));have L5:=V (L5.out.trans (LH.below L5.out.size (fun i hi=>by omega)));clear h2 LH c0 c1 g1 g2;go_wp2_with fail;refine(jI w w2 _ _ Ms.out).mono ?_;rintro e w3 ⟨rfl,h2,LH⟩;have Ms:=V h2;have Qd:=V (Qd.out.keeps LH (fun i hi=> .inl (by omega)) (by omega));have HX:=V (HX.out.keeps LH (by omega));have L5:=V (L5.out.trans (LH.below L5.out.size (fun i hi=>by omega)));clear h2 LH;go_wp2_with fail;refine(zD w w3 _ _ (w.heap.size+3) c.toNat _ u m Ms.out Qd.out (by omega) (by omega) (by omega)).mono ?_;rintro e w4 ⟨u',m',rfl,hmd,hw,h2,LH⟩;have Ms:=V h2;have Qd:=V hmd;have HW:=V hw;have HX:=V (HX.out.keeps LH (by omega));have L5:=V (L5.out.trans (LH.below L5.out.size (fun i hi=>by omega)));clear h2 LH hmd hw;go_wp2_with fail;obtain⟨f2,rfl⟩:∃f2,f'=f2+1:=⟨f' - 1,by have:=Qu.out;simp only [gA.len]at this;omega⟩;have QV:=(Dx c.toNat m).len (et fX (some rest));have hl2:=(jg.lJ kK).len (some rest);have hl3:L.length=rest.length+1:=by rw [HL.out];rfl
    have hl4:=Qu.out;have hl5:gA.len (some rest)=rest.length+1:=rfl;have hl6:gA.len (some L)=L.length+1:=rfl;have hl7:=aQ QV hl2;rw [hl5]at hl7;rw [hl6]at hl4;have hl8:=aQ hl7 (show rest.length+1 <=f2 by omega);refine HR.out _ _ ⟨u',m',et (jo c.toNat m) (et fX (some rest)),f2,rfl,?_,hl8,Ms.out,Qd.out,HX.out,L5.out⟩ ?_
    ·rw [Nx.out,HL.out]
     exact DG HW.out
    ·rw [Ms.out.left,HHR.out.left]
     exact Nat.lt_of_le_of_lt hl7 (show rest.length+1 < gA.len (some L)by rw [hl6];omega)
theorem zH {α β:Type} {k:Nat} {enc:α × β ->List Value} {inner:World ->α ->β ->Prop} {w:World} {v:Value} {l:List α} (h:ef k enc inner w v l) {x:α} (hx:x∈l):∃u,inner w x u:=by
 obtain⟨i,hi⟩:=List.getElem?_of_mem hx;obtain⟨a,cap,rfl,-,-⟩:=ef.slice h;obtain⟨b,off,u,-,-,-,hu⟩:=ef.get h hi;exact⟨u,hu⟩
theorem eo.JQ {w:World} {u:eE} {m:eu} (h:eo w u m):∀x∈m.eh,∀y∈x.body,y.ok:=fun x hx y hy=>by
 obtain⟨u1,h1⟩:=zH h.2.2.2.2.2.2.1 hx;obtain⟨u2,h2⟩:=zH h1.1.2 hy;exact h2.2
theorem zs {w:World} {u:eE} {m:eu} (h:eo w u m) (hm:m.may):qu (fA m)=some m:=by
 unfold qu;rw [AG hm.1.Il h.2.2.2.2.2.2.2.2 h.JQ hm.2];simp [hm]
def Gw (m:eu) (w:World) (e:Ending) (w':World):Prop:=∃u,e= .returned (.agg (u.cells m))/\eo (mask (jO w.heap.size) w') u m/\Below w.heap.size w w'
theorem BB (m:eu) (u:eE) (w:World) (hm:eo w u m) (hs:m.words) (hy:m.may):Calls prog 35 #[.agg (u.cells m)] w (Gw m w):=by
 have HI:=V hm;have Q7:=V hs;have HY:=V hy;have HDEC:=V (zs hm hy);obtain⟨a0,c0,a1,c1,a2,c2,a3,c3,a4,c4,a5,c5,a6,c6,a7,c7,rfl⟩:=eo.open hm;clear hm hs hy;simp only [eE.cells];have LR:=(an w.heap.size w).alloc (ag _) (.cells #[.slice a0 m.types.length c0, .slice a1 m.imports.length c1, .slice a2 m.funcs.length c2, .bool m.table.has, .int .i64 m.table.min, .int .i64 m.table.max, .bool m.mem.has, .int .i64 m.mem.min, .int .i64 m.mem.max, .slice a3 m.globals.length c3, .slice a4 m.dY.length c4, .slice a5 m.elems.length c5, .slice a6 m.eh.length c6, .slice a7 m.eA.length c7] 35);have HS:=V (LR.alloc (by rw [aC];omega) (.cells (u0.cells m0) 35));have Np:=eD.new (w.alloc (.cells #[.slice a0 m.types.length c0, .slice a1 m.imports.length c1, .slice a2 m.funcs.length c2, .bool m.table.has, .int .i64 m.table.min, .int .i64 m.table.max, .bool m.mem.has, .int .i64 m.mem.min, .int .i64 m.mem.max, .slice a3 m.globals.length c3, .slice a4 m.dY.length c4, .slice a5 m.elems.length c5, .slice a6 m.eh.length c6, .slice a7 m.eA.length c7] 35)) (u0.cells m0) 35;rw [aC]at Np;have HX:=V Np;simp only [eE.cells,u0,m0]at HX HS;clear LR Np;go_enter func35,ntmps35;go_wp2_with fail;obtain⟨wA,PL⟩:∃wA,wA=(w.alloc (.cells #[.slice a0 m.types.length c0, .slice a1 m.imports.length c1, .slice a2 m.funcs.length c2, .bool m.table.has, .int .i64 m.table.min, .int .i64 m.table.max, .bool m.mem.has, .int .i64 m.mem.min, .int .i64 m.mem.max, .slice a3 m.globals.length c3, .slice a4 m.dY.length c4, .slice a5 m.elems.length c5, .slice a6 m.eh.length c6, .slice a7 m.eA.length c7] 35)).alloc (.cells #[.slice none 0 0, .slice none 0 0, .slice none 0 0, .bool false, .int .i64 0, .int .i64 0, .bool false, .int .i64 0, .int .i64 0, .slice none 0 0, .slice none 0 0, .slice none 0 0, .slice none 0 0, .slice none 0 0] 35):=⟨_,rfl⟩;rw [<- PL]at HS HX⊢;clear PL;refine(nQ m ⟨.slice a0 m.types.length c0, .slice a1 m.imports.length c1, .slice a2 m.funcs.length c2, .slice a3 m.globals.length c3, .slice a4 m.dY.length c4, .slice a5 m.elems.length c5, .slice a6 m.eh.length c6, .slice a7 m.eA.length c7⟩ wA (eo.below HI.out HS.out) Q7.out).mono ?_;rintro e w2 ⟨v,rfl,⟨MR,-⟩ | ⟨-,hv⟩,hb⟩
 ·exact absurd HY.out MR
 replace HX:=V (HX.out.below hb HX.out.lt);replace HS:=V (HS.out.trans (hb.mono HS.out.size));have HV:=V hv;clear hb hv;go_wp2_with fail;refine(qN v (fA m) w2 HV.out (by have:=HY.out.2;omega)).mono ?_;rintro e w3 ⟨hb,⟨u,m',hd,rfl,hu,-⟩ | ⟨hd,-⟩⟩;rotate_left
 ·rw [HDEC.out]at hd
  cases hd
 rw [HDEC.out]at hd;injection hd with hd;subst hd;have hlow:w.heap.size+1 < w2.heap.size:=HX.out.lt;replace HX:=V (HX.out.below hb HX.out.lt);replace HS:=V (HS.out.trans (hb.mono HS.out.size));have HU:=V hu;clear hb hu HV;obtain⟨b0,k0,b1,k1,b2,k2,b3,k3,b4,k4,b5,k5,b6,k6,b7,k7,rfl⟩:=eo.open HU.out;simp only [eE.cells];have LG:=(an w3.heap.size w3).alloc (ag _) (.cells #[.slice b0 m.types.length k0, .slice b1 m.imports.length k1, .slice b2 m.funcs.length k2, .bool m.table.has, .int .i64 m.table.min, .int .i64 m.table.max, .bool m.mem.has, .int .i64 m.mem.min, .int .i64 m.mem.max, .slice b3 m.globals.length k3, .slice b4 m.dY.length k4, .slice b5 m.elems.length k5, .slice b6 m.eh.length k6, .slice b7 m.eA.length k7] 35);have HZ:=V (eD.new w3 #[.slice b0 m.types.length k0, .slice b1 m.imports.length k1, .slice b2 m.funcs.length k2, .bool m.table.has, .int .i64 m.table.min, .int .i64 m.table.max, .bool m.mem.has, .int .i64 m.mem.min, .int .i64 m.mem.max, .slice b3 m.globals.length k3, .slice b4 m.dY.length k4, .slice b5 m.elems.length k5, .slice b6 m.eh.length k6, .slice b7 m.eA.length k7] 35);replace HX:=V (HX.out.below LG HX.out.lt);have HB1:=V LG;clear LG;obtain⟨p0,p1,p2,p3,p4,p5,p6,p7,p8,p9,p10,p11,p12,p13⟩:=HX.out.mod;obtain⟨q0,q1,q2,q3,q4,q5,q6,q7,q8,q9,q10,OX,q12,q13⟩:=HX.out.uW;go_wp2_with fail;have hx:=((show eD _ (w.heap.size+1) (u0.cells m0) _ from HX.out).ox ⟨.slice b0 m.types.length k0, .slice b1 m.imports.length k1, .slice b2 m.funcs.length k2, .slice b3 m.globals.length k3, .slice b4 m.dY.length k4, .slice b5 m.elems.length k5, .slice b6 m.eh.length k6, .slice b7 m.eA.length k7⟩ m).mh;have Lx:=kk (w3.alloc (.cells (eE.cells ⟨.slice b0 m.types.length k0, .slice b1 m.imports.length k1, .slice b2 m.funcs.length k2, .slice b3 m.globals.length k3, .slice b4 m.dY.length k4, .slice b5 m.elems.length k5, .slice b6 m.eh.length k6, .slice b7 m.eA.length k7⟩ m) 35)) (w.heap.size+1) ⟨.slice b0 m.types.length k0, .slice b1 m.imports.length k1, .slice b2 m.funcs.length k2, .slice b3 m.globals.length k3, .slice b4 m.dY.length k4, .slice b5 m.elems.length k5, .slice b6 m.eh.length k6, .slice b7 m.eA.length k7⟩ m;refine aF (ej rfl _ _ rfl hx) rfl ?_;exact⟨_,rfl,eo.ext (eo.ext HU.out (ni (P:=fun _=>False) (dU.dW HB1.out) (fun _ h=>h.elim) (.inl (ag _)))) ((ni Lx (fun i hi=> .inl (by omega)) (.inl (ag _))).trans (tW _ (by omega))),(HS.out.trans (HB1.out.mono HS.out.size)).trans (Lx.below (by have:=HS.out.size;simp;omega) (fun i hi=>by omega))⟩
structure ly where
 u:eE
 vm:Value
 vs:Value
 vj:Value
 js:List Nat
def yv (j:Nat):List Value:=[.map (some j)]
theorem EG (j:Nat):(yv j).length=1:=rfl
theorem Fz (j:Nat):∀u∈yv j,u.oneCell'=true:=by
 intro u hu;simp only [yv,bH,bP,da]at hu;rw [hu];rfl
def tb (iv:ly) (m:eu):Array Value:=
 #[iv.u.types,iv.u.imports,iv.u.funcs, .bool m.table.has, .int .i64 m.table.min, .int .i64 m.table.max, .bool m.mem.has, .int .i64 m.mem.min, .int .i64 m.mem.max,iv.u.globals,iv.u.dY,iv.u.elems,iv.u.eh,iv.u.eA,iv.vm,iv.vs,iv.vj]
structure iw (w:World) (FX:Nat ->Bool) (X:Nat) (iv:ly) (m:eu):Prop where
 jq:eD w X (tb iv m) 102
 fx:FX X=true
 mod:eo (mask (fun k=> !FX k) w) iv.u m
 jumps:dS 112 1 yv w 0 iv.vj iv.js
 fj:∀g,ez iv.vj g ->FX g=true
 maps:∀(k j:Nat) (c:hI),iv.js[k]?=some j ->m.eh[k]?=some c ->fR w j (oa c)/\FX j=true
 len:iv.js.length=m.eh.length
 lt:∀g,FX g=true ->g < w.heap.size
theorem iw.keeps {P:Nat ->Prop} {w w':World} {FX:Nat ->Bool} {X:Nat} {iv:ly} {m:eu} (h:iw w FX X iv m) (hk:dU P w w') (hP:∀g,P g ->FX g=false):iw w' FX X iv m:=by
 have hN:∀g,FX g=true ->¬ P g:=fun g hg hp=>by rw [hP g hp]at hg;cases hg
 refine⟨h.jq.keeps hk (hN X h.fx),h.fx,h.mod.ext (iC hk (fun k _ hp=>by simp [hP k hp]) (fun k _ hp=>hp)),h.jumps.keeps hk (fun g hg=>hN g (h.fj g hg)),h.fj,fun k j c hj hc=>?_,h.len,fun g hg=>bo (h.lt g hg) hk.size⟩;obtain⟨h1,h2⟩:=h.maps k j c hj hc;exact⟨h1.keeps hk (hN j h2),h2⟩
theorem iw.below {w w':World} {FX:Nat ->Bool} {X:Nat} {iv:ly} {m:eu} (h:iw w FX X iv m) (hb:Below w.heap.size w w'):iw w' FX X iv m:=h.keeps (P:=fun _=>False) (dU.dW hb) (fun _ h=>h.elim)
theorem iw.is {w:World} {FX:Nat ->Bool} {X:Nat} {iv:ly} {m:eu} (h:iw w FX X iv m):eo w iv.u m:=h.mod.fK
def ym (w:World) (FM:Nat ->Bool) (p:Value) (e:Option zI):Prop:=
 (e=none/\p= .pointer none)\/∃x X v v',e=some x/\p= .pointer (some ⟨X,0,none⟩)/\eD w X #[v, .int .i64 x.ff,v'] 159/\ed w 0 v x.bytes/\dS 3 1 eU w 0 v' x.Cv/\FM X=true/\(∀g,ez v g ->FM g=true)/\∀g,ez v' g ->FM g=true
def Lp (w:World) (FSs:Nat ->Bool) (p:Value) (e:yr):Prop:=
 ∃X v v',p= .pointer (some ⟨X,0,none⟩)/\eD w X #[v,v'] 161/\dS 3 1 eU w 0 v e.table/\dS 52 2 fD w 0 v' e.globals/\FSs X=true/\(∀g,ez v g ->FSs g=true)/\∀g,ez v' g ->FSs g=true
theorem ed.lower {w:World} {B B':Nat} {v:Value} {l:List UInt8} (h:ed w B v l) (hB:B' <=B):ed w B' v l:=my h (fun k hk=>by have:=(ey h hk).1;omega)
theorem ym.keeps {P:Nat ->Prop} {w w':World} {FM:Nat ->Bool} {p:Value} {e:Option zI} (h:ym w FM p e) (hk:dU P w w') (hP:∀g,P g ->FM g=false):ym w' FM p e:=by
 have hN:∀g,FM g=true ->¬ P g:=fun g hg hp=>by rw [hP g hp]at hg;cases hg
 rcases h with h | ⟨x,X,v,v',h1,h2,h3,h4,h5,h6,h7,h8⟩
 ·exact .inl h
 ·exact .inr ⟨x,X,v,v',h1,h2,h3.keeps hk (hN X h6),h4.keeps hk (fun g hg=>hN g (h7 g hg)),h5.keeps hk (fun g hg=>hN g (h8 g hg)),h6,h7,h8⟩
def rJ (a b:Nat):Nat ->Bool:=fun g=>decide (a <=g)&&decide (g < b)
theorem kx {a b g:Nat}:rJ a b g=true↔a <=g/\g < b:=by simp [rJ]
theorem ee.at {α:Type} {k:Nat} {enc:α ->List Value} {w:World} {v:Value} {l:List α} (h:ee k enc w v l) {i:Nat} {x:α} (hx:l[i]?=some x):∃b off cap,v= .slice (some ⟨b,off,none⟩) l.length cap/\l.length <=cap/\cap <=9223372036854775807/\b < w.heap.size/\∀j u,(enc x)[j]?=some u ->w.cell? ⟨b,off+i*k+j,none⟩=some u:=by
 obtain⟨a,cap,rfl,h1,h2,h3⟩:=h;obtain⟨b,off,rfl,LD,hc⟩:=h3 i x hx;exact⟨b,off,cap,rfl,h1,by simpa [maxLen] using h2,LD,hc⟩
theorem ee.sl {α:Type} {k:Nat} {enc:α ->List Value} {w:World} {v:Value} {l:List α} (h:ee k enc w v l):∃a cap,v= .slice a l.length cap/\l.length <=cap/\cap <=9223372036854775807:=by
 obtain⟨a,cap,rfl,h1,h2,h3⟩:=h;exact⟨a,cap,rfl,h1,by simpa [maxLen] using h2⟩
theorem ef.at {α β:Type} {k:Nat} {enc:α × β ->List Value} {inner:World ->α ->β ->Prop} {w:World} {v:Value} {l:List α} (h:ef k enc inner w v l) {i:Nat} {x:α} (hx:l[i]?=some x):∃b off cap u,v= .slice (some ⟨b,off,none⟩) l.length cap/\l.length <=cap/\cap <=9223372036854775807/\b < w.heap.size/\(∀j v,(enc (x,u))[j]?=some v ->w.cell? ⟨b,off+i*k+j,none⟩=some v)/\inner w x u:=by
 obtain⟨a,cap,rfl,h1,h2⟩:=h.slice;obtain⟨b,off,u,rfl,LD,hc,hi⟩:=h.get hx;exact⟨b,off,cap,u,rfl,h1,h2,LD,hc,hi⟩
def rL (FX:Nat ->Bool) (w:World):World:=mask (fun k=> !FX k) w
theorem jB {FX:Nat ->Bool} {w w':World} (h:Below w.heap.size w w'):Ext (rL FX w) (rL FX w'):=iC (dU.dW (S:=fun _=>False) h) (fun _ _ h=>h.elim) (fun _ _ h=>h)
theorem uT {P:Nat ->Prop} {FX:Nat ->Bool} {w w':World} (h:dU P w w') (hP:∀g,P g ->FX g=false):Ext (rL FX w) (rL FX w'):=iC h (fun k _ hk=>by simp [hP k hk]) (fun _ _ h=>h)
theorem rO (FX:Nat ->Bool) (w:World):Ext (rL FX w) w:=sc (P:=fun _=>False) (dU.refl _ _) (fun _ _ h=>h.elim)
def I8 (FX:Nat ->Bool) (iv:ly) (k:Nat) (c:hI) (w:World) (e:Ending) (w':World):Prop:=∃v j,e= .returned (.tuple #[v, .map (some j)])/\gu (rL FX w') v c.body/\iv.js[k]?=some j/\Below w.heap.size w w'
def Jn (X b off b2:Nat) (QD u16 u v:Value) (k:Nat) (w:World):Prop:=
 w.cell? ⟨X,12,none⟩=some QD/\w.cell? ⟨X,16,none⟩=some u16/\w.cell? ⟨b,off+k*2+1,none⟩=some u/\w.cell? ⟨b2,k,none⟩=some v
theorem zL (w:World) (FX:Nat ->Bool) (X:Nat) (iv:ly) (m:eu) (h:iw w FX X iv m) (k:Nat) (c:hI) (hc:m.eh[k]?=some c) (f:Int) (hf:f=((m.imports.length+k:Nat):Int)) (hk:m.imports.length+k <=100000):
  Calls prog 51 #[.pointer (some ⟨X,0,none⟩), .int .i64 f] w (I8 FX iv k c w):=by
 subst hf;have Mi:=(aG.1 hc).1;obtain⟨j,hj⟩:∃j,iv.js[k]?=some j:=⟨_,aq (by rw [h.len];exact Mi)⟩;obtain⟨b,off,cap,u,NP,L7,Nc,hb,LM,hi⟩:=ef.at h.mod.2.2.2.2.2.2.1 hc;obtain⟨ai,ci,h1,-,hcim⟩:=h.is.2.1.sl;have hj2:=h.jumps.fH EG;obtain⟨b2,LX,LA,h16,hcap2,hcm2,Lw,hcj⟩:=ee.at hj2 hj;obtain⟨g,MP,cur3,h16',-,-,-,-,-⟩:=h.jumps.open (by intro e;rw [e]at hj;simp at hj);have e1:=h16.symm.trans h16';injection e1 with e1 _ _;injection e1 with e1;injection e1 with e1 e2;subst e1 e2;have x1:w.cell? ⟨X,1,none⟩=some (.slice ai m.imports.length ci):=by rw [<- h1];exact h.jq.cell 1
 have x12:w.cell? ⟨X,12,none⟩=some (.slice (some ⟨b,off,none⟩) m.eh.length cap):=by rw [<- NP];exact h.jq.cell 12
 have x16:w.cell? ⟨X,16,none⟩=some (.slice (some ⟨b2,0,none⟩) iv.js.length LA):=by rw [<- h16];exact h.jq.cell 16
 have y1:w.cell? ⟨b,off+k*2+1,none⟩=some u.2:=(fP (LM 1 _ rfl)).2;have y2:w.cell? ⟨b2,k,none⟩=some (.map (some j)):=by
  have:=hcj 0 _ rfl
  rwa [bR,aY,aI]at this
 obtain⟨au,cu,hue,-,-⟩:=ef.slice hi.1.2;have hS:Jn X b off b2 (.slice (some ⟨b,off,none⟩) m.eh.length cap) (.slice (some ⟨b2,0,none⟩) iv.js.length LA) (.slice au c.body.length cu) (.map (some j)) k w.drew:=⟨x12,x16,by rw [<- hue];exact y1,y2⟩;have HB:=V (show gu (rL FX w) (.slice au c.body.length cu) c.body by rw [<- hue];exact hi.1.2);have HJ:=V hj;have hkl2:k < iv.js.length:=(aG.1 hj).1;clear h hc hj LM hi hj2 hcj NP h1 h16 h16' x12 x16 y1 y2 hue;go_enter func51,ntmps51;go_wp2_with fail;refine ea (Jn X b off b2 (.slice (some ⟨b,off,none⟩) m.eh.length cap) (.slice (some ⟨b2,0,none⟩) iv.js.length LA) (.slice au c.body.length cu) (.map (some j)) k) (up 0 18 []) (by kernel_rfl) (by kernel_rfl) hS ?_;clear hS;iterate 18 (first | (apply sk rfl rfl;simp only [pt]) | (apply dV rfl rfl rfl;·(rintro w' ⟨t0,t1,t2,t3⟩;go_wp2;exact⟨rfl,rfl,rfl⟩)))
 refine eF ?_;refine aA ?_;go_wp2
 go_ret2
 have hb:=(an w.heap.size w).drew;exact⟨_,j,rfl,ef.ext HB.out (jB hb) (fun _ _ h=>h.ext (jB hb)),HJ.out,hb⟩
theorem kW (w:World) (FX:Nat ->Bool) (X:Nat) (iv:ly) (m:eu) (h:iw w FX X iv m) (f:Int):
  Calls prog 44 #[.pointer (some ⟨X,0,none⟩), .int .i64 f] w (fi (.bool (ki m f)) w):=by
 obtain⟨ai,ci,h1,-,hcim⟩:=h.is.2.1.sl;have x1:w.cell? ⟨X,1,none⟩=some (.slice ai m.imports.length ci):=by rw [<- h1];exact h.jq.cell 1
 clear h h1;by_cases q0:f < 0
 ·have f0:decide (0 <=f)=false:=aw (by omega)
  have f1:decide (f < 0)=true:=ay q0;have HR:=V (show ki m f=false by simp [ki,f0]);clear q0;go_enter func44,ntmps44;go_wp2;go_ret;exact⟨by rw [HR.out];rfl,an _ _⟩
 have f0:decide (0 <=f)=true:=ay (by omega);have f1:decide (f < 0)=false:=aw q0;by_cases q:f < m.imports.length
 ·have f2:decide (f < (m.imports.length:Int))=true:=ay q
  have HR:=V (show ki m f=true by simp [ki,f0,f2]);clear q q0;go_enter func44,ntmps44;go_wp2;go_ret;exact⟨by rw [HR.out];rfl,an _ _⟩
 ·have f2:decide (f < (m.imports.length:Int))=false:=aw q
  have HR:=V (show ki m f=false by simp [ki,f0,f2]);clear q q0;go_enter func44,ntmps44;go_wp2;go_ret;exact⟨by rw [HR.out];rfl,an _ _⟩
def Bi (FX:Nat ->Bool) (t:gw) (w:World) (e:Ending) (w':World):Prop:=∃u1 u2,e= .returned (.tuple #[.agg #[u1,u2], .bool true])/\ee 1 eU (rL FX w') u1 t.params/\ee 1 eU (rL FX w') u2 t.results/\Below w.heap.size w w'
def uj (X b off bt My ti:Nat) (v0 v1 v2 u1 u2:Value) (n:Int) (w:World):Prop:=
 w.cell? ⟨X,0,none⟩=some v0/\w.cell? ⟨X,1,none⟩=some v1/\w.cell? ⟨X,2,none⟩=some v2/\w.cell? ⟨b,off,none⟩=some (.int .i64 n)/\w.cell? ⟨bt,My+ti*2,none⟩=some u1/\w.cell? ⟨bt,My+ti*2+1,none⟩=some u2
theorem uj.keeps {P:Nat ->Prop} {X b off bt My ti:Nat} {v0 v1 v2 u1 u2:Value} {n:Int} {w w':World} (h:uj X b off bt My ti v0 v1 v2 u1 u2 n w) (hk:dU P w w') (hP:∀g,P g ->w.heap.size <=g\/¬ (g=X\/g=b\/g=bt)):uj X b off bt My ti v0 v1 v2 u1 u2 n w':=by
 obtain⟨h1,h2,h3,h4,h5,h6⟩:=h;have key:∀{a:Addr} {v:Value},w.cell? a=some v ->(a.block=X\/a.block=b\/a.block=bt) ->w'.cell? a=some v:=fun ha hb=>by
  have hl:=aO w _ ha;exact(hk.cell hl (fun hp=>(hP _ hp).elim (fun h=>by omega) (fun h=>h hb))).trans ha
 exact⟨key h1 (.inl rfl),key h2 (.inl rfl),key h3 (.inl rfl),key h4 (.inr (.inl rfl)),key h5 (.inr (.inr rfl)),key h6 (.inr (.inr rfl))⟩
theorem FZ (w:World) (FX:Nat ->Bool) (X:Nat) (iv:ly) (m:eu) (h:iw w FX X iv m) (i ti:Nat) (x:jD) (t:gw) (hx:m.imports[i]?=some x) (hti:x.type=(ti:Int)) (ht:m.types[ti]?=some t) (f:Int) (hf:f=(i:Int)) (hk:m.imports.length+m.funcs.length <=100000):
  Calls prog 43 #[.pointer (some ⟨X,0,none⟩), .int .i64 f] w (Bi FX t w):=by
 subst hf;have hil:=(aG.1 hx).1;obtain⟨bt,My,Pc,ut,h0,hcapt,hcmt,hbt,NS,AO⟩:=ef.at h.mod.1 ht;obtain⟨ap,cp,hpe,-,-⟩:=AO.1.1.sl;obtain⟨ar,cr,hre,-,-⟩:=AO.1.2.sl;have htl:=(aG.1 ht).1;have x0:w.cell? ⟨X,0,none⟩=some (.slice (some ⟨bt,My,none⟩) m.types.length Pc):=by rw [<- h0];exact h.jq.cell 0
 have y1:w.cell? ⟨bt,My+ti*2,none⟩=some (.slice ap t.params.length cp):=by rw [<- hpe];exact(fP (NS 0 _ rfl)).2
 have y2:w.cell? ⟨bt,My+ti*2+1,none⟩=some (.slice ar t.results.length cr):=by rw [<- hre];exact(fP (NS 1 _ rfl)).2
 have HP:=V (show ee 1 eU (rL FX w) (.slice ap t.params.length cp) t.params by rw [<- hpe];exact AO.1.1);have HR:=V (show ee 1 eU (rL FX w) (.slice ar t.results.length cr) t.results by rw [<- hre];exact AO.1.2);have QH:=h.jq.lt;rw [gX]at hbt;clear NS AO hpe hre h0;obtain⟨b,off,ci,h1,hci,hcim,Mf,LM⟩:=ee.at h.is.2.1 hx;obtain⟨af,cf,h2,P7,hcfm⟩:=h.is.2.2.1.sl;have x1:w.cell? ⟨X,1,none⟩=some (.slice (some ⟨b,off,none⟩) m.imports.length ci):=by rw [<- h1];exact h.jq.cell 1
 have x2:w.cell? ⟨X,2,none⟩=some (.slice af m.funcs.length cf):=by rw [<- h2];exact h.jq.cell 2
 have y0:w.cell? ⟨b,off+i*3+2,none⟩=some (.int .i64 (ti:Int)):=by
  have:=LM 2 _ rfl;rw [<- hti];exact this
 have hS:uj X b (off+i*3+2) bt My ti (.slice (some ⟨bt,My,none⟩) m.types.length Pc) (.slice (some ⟨b,off,none⟩) m.imports.length ci) (.slice af m.funcs.length cf) (.slice ap t.params.length cp) (.slice ar t.results.length cr) (ti:Int) w:=⟨x0,x1,x2,y0,y1,y2⟩;have HN:=V (show X < w.heap.size/\b < w.heap.size/\bt < w.heap.size from⟨QH,Mf,hbt⟩);have HIM:=V (show ki m (i:Int)=true by simp [ki];omega);have f1:decide (((i:Nat):Int) < 0)=false:=aw (by omega);have f2:decide ((m.imports.length:Int)+(m.funcs.length:Int) <=(i:Int))=false:=aw (by omega);have f3:decide (m.imports.length+m.funcs.length <=i)=false:=aw (by omega);clear x0 x1 x2 y0 y1 y2 LM h1 h2 hx ht hti Mf QH hbt;have LR:=(an w.heap.size w).alloc (ag _) (.cells #[.slice none 0 0, .slice none 0 0] 69);have HX:=V (eD.new w #[.slice none 0 0, .slice none 0 0] 69).drew;have HB:=V LR.drew;have HI:=V (kW (w.alloc (.cells #[.slice none 0 0, .slice none 0 0] 69)).drew FX X iv m (h.below LR.drew) ((i:Nat):Int));have hS1:=hS.keeps (dU.dW (S:=fun _=>False) LR.drew) (fun _ h=>h.elim);clear LR hS h;go_enter func43,ntmps43;go_wp2_with fail;refine ea (uj X b (off+i*3+2) bt My ti (.slice (some ⟨bt,My,none⟩) m.types.length Pc) (.slice (some ⟨b,off,none⟩) m.imports.length ci) (.slice af m.funcs.length cf) (.slice ap t.params.length cp) (.slice ar t.results.length cr) (ti:Int)) (up 0 23 []) (by kernel_rfl) (by kernel_rfl) hS1 ?_;iterate 23 (first | (apply sk rfl rfl;simp only [pt]) | (apply dV rfl rfl rfl;·(rintro w' ⟨t0,t1,t2,t3,t4,t5⟩;go_wp2;exact⟨rfl,rfl,rfl⟩)))
 refine eF ?_;refine aA ?_;generalize(w.alloc (.cells #[.slice none 0 0, .slice none 0 0] 69)).drew=w1 at HX HB HI hS1⊢;go_wp2_with fail;refine(HI.out).mono ?_;rintro e w2 ⟨rfl,hb⟩;rw [HIM.out];replace HX:=V (HX.out.below hb HX.out.lt);replace HB:=V (HB.out.trans (hb.mono HB.out.size));have QS:uj X b (off+i*3+2) bt My ti (.slice (some ⟨bt,My,none⟩) m.types.length Pc) (.slice (some ⟨b,off,none⟩) m.imports.length ci) (.slice af m.funcs.length cf) (.slice ap t.params.length cp) (.slice ar t.results.length cr) (ti:Int) w2.drew:=(hS1.keeps (dU.dW (S:=fun _=>False) hb) (fun _ h=>h.elim)).keeps (dU.dW (S:=fun _=>False) (an _ _).drew) (fun _ h=>h.elim);have HXD:=V HX.out.drew;have Re:=V HB.out.drew;clear hb hS1 HI f1 f2 f3;go_wp2_with fail;refine ea (uj X b (off+i*3+2) bt My ti (.slice (some ⟨bt,My,none⟩) m.types.length Pc) (.slice (some ⟨b,off,none⟩) m.imports.length ci) (.slice af m.funcs.length cf) (.slice ap t.params.length cp) (.slice ar t.results.length cr) (ti:Int)) (up 0 16 ((16,false)::(17,true)::[])) (by kernel_rfl) (by kernel_rfl) QS ?_;generalize w2.drew=w3 at HXD Re QS⊢;iterate 16 (first | (apply sk rfl rfl;simp only [pt]) | (apply dV rfl rfl rfl;·(rintro w' ⟨t0,t1,t2,t3,t4,t5⟩;go_wp2;exact⟨rfl,rfl,rfl⟩)))
 refine dZ rfl rfl ?_;obtain⟨x0,x1,z0,z1⟩:=HXD.out.two;go_wp2_with fail;have Lx:=fp w3 w.heap.size (.slice ap t.params.length cp) (.slice ar t.results.length cr);refine⟨QS.keeps Lx (fun g hg=> .inr (by have:=HN.out;omega)),?_⟩;have Ov:=HXD.out.mL (.slice ap t.params.length cp) (.slice ar t.results.length cr);have HL:=V Ov.kr;have Nw:=V (Re.out.trans (Lx.below Re.out.size (fun i hi=>by omega)));clear Lx Ov x0 x1 z0 z1 QS;iterate 1 (first | (apply sk rfl rfl;simp only [pt]) | (apply dV rfl rfl rfl;·(rintro w' ⟨t0,t1,t2,t3,t4,t5⟩;go_wp2;exact⟨rfl,rfl,rfl⟩)))
 refine eF ?_;refine aA ?_;go_wp2_with fail;refine aF (eY rfl _ _ rfl HL.out) rfl ?_;exact⟨_,_,rfl,HP.out.ext (jB Nw.out),HR.out.ext (jB Nw.out),Nw.out⟩
theorem Gv (w:World) (FX:Nat ->Bool) (X:Nat) (iv:ly) (m:eu) (h:iw w FX X iv m) (i ti:Nat) (t:gw) (hx:m.funcs[i]?=some (ti:Int)) (ht:m.types[ti]?=some t) (f:Int) (hf:f=((m.imports.length+i:Nat):Int)) (hk:m.imports.length+m.funcs.length <=100000):
  Calls prog 43 #[.pointer (some ⟨X,0,none⟩), .int .i64 f] w (Bi FX t w):=by
 subst hf;have hil:=(aG.1 hx).1;obtain⟨bt,My,Pc,ut,h0,hcapt,hcmt,hbt,NS,AO⟩:=ef.at h.mod.1 ht;obtain⟨ap,cp,hpe,-,-⟩:=AO.1.1.sl;obtain⟨ar,cr,hre,-,-⟩:=AO.1.2.sl;have htl:=(aG.1 ht).1;have x0:w.cell? ⟨X,0,none⟩=some (.slice (some ⟨bt,My,none⟩) m.types.length Pc):=by rw [<- h0];exact h.jq.cell 0
 have y1:w.cell? ⟨bt,My+ti*2,none⟩=some (.slice ap t.params.length cp):=by rw [<- hpe];exact(fP (NS 0 _ rfl)).2
 have y2:w.cell? ⟨bt,My+ti*2+1,none⟩=some (.slice ar t.results.length cr):=by rw [<- hre];exact(fP (NS 1 _ rfl)).2
 have HP:=V (show ee 1 eU (rL FX w) (.slice ap t.params.length cp) t.params by rw [<- hpe];exact AO.1.1);have HR:=V (show ee 1 eU (rL FX w) (.slice ar t.results.length cr) t.results by rw [<- hre];exact AO.1.2);have QH:=h.jq.lt;rw [gX]at hbt;clear NS AO hpe hre h0;obtain⟨b,off,cf,h2,P7,hcfm,Mf,LM⟩:=ee.at h.is.2.2.1 hx;obtain⟨ai,ci,h1,hci,hcim⟩:=h.is.2.1.sl;have x1:w.cell? ⟨X,1,none⟩=some (.slice ai m.imports.length ci):=by rw [<- h1];exact h.jq.cell 1
 have x2:w.cell? ⟨X,2,none⟩=some (.slice (some ⟨b,off,none⟩) m.funcs.length cf):=by rw [<- h2];exact h.jq.cell 2
 have y0:w.cell? ⟨b,off+i,none⟩=some (.int .i64 (ti:Int)):=by
  have:=LM 0 _ rfl
  rwa [aY,aI]at this
 have hS:uj X b (off+i) bt My ti (.slice (some ⟨bt,My,none⟩) m.types.length Pc) (.slice ai m.imports.length ci) (.slice (some ⟨b,off,none⟩) m.funcs.length cf) (.slice ap t.params.length cp) (.slice ar t.results.length cr) (ti:Int) w:=⟨x0,x1,x2,y0,y1,y2⟩;have HN:=V (show X < w.heap.size/\b < w.heap.size/\bt < w.heap.size from⟨QH,Mf,hbt⟩);have HIM:=V (show ki m ((m.imports.length+i:Nat):Int)=false by simp [ki];omega);have f1:decide (((m.imports.length+i:Nat):Int) < 0)=false:=aw (by omega);have f2:decide ((m.imports.length:Int)+(m.funcs.length:Int) <=(m.imports.length:Int)+(i:Int))=false:=aw (by omega);have f3:decide (m.imports.length+m.funcs.length <=m.imports.length+i)=false:=aw (by omega);clear x0 x1 x2 y0 y1 y2 LM h1 h2 hx ht Mf QH hbt;have LR:=(an w.heap.size w).alloc (ag _) (.cells #[.slice none 0 0, .slice none 0 0] 69);have HX:=V (eD.new w #[.slice none 0 0, .slice none 0 0] 69).drew;have HB:=V LR.drew;have HI:=V (kW (w.alloc (.cells #[.slice none 0 0, .slice none 0 0] 69)).drew FX X iv m (h.below LR.drew) ((m.imports.length+i:Nat):Int));have hS1:=hS.keeps (dU.dW (S:=fun _=>False) LR.drew) (fun _ h=>h.elim);clear LR hS h;go_enter func43,ntmps43;go_wp2_with fail;refine ea (uj X b (off+i) bt My ti (.slice (some ⟨bt,My,none⟩) m.types.length Pc) (.slice ai m.imports.length ci) (.slice (some ⟨b,off,none⟩) m.funcs.length cf) (.slice ap t.params.length cp) (.slice ar t.results.length cr) (ti:Int)) (up 0 23 []) (by kernel_rfl) (by kernel_rfl) hS1 ?_;iterate 23 (first | (apply sk rfl rfl;simp only [pt]) | (apply dV rfl rfl rfl;·(rintro w' ⟨t0,t1,t2,t3,t4,t5⟩;go_wp2;exact⟨rfl,rfl,rfl⟩)))
 refine eF ?_;refine aA ?_;generalize(w.alloc (.cells #[.slice none 0 0, .slice none 0 0] 69)).drew=w1 at HX HB HI hS1⊢;go_wp2_with fail;refine(HI.out).mono ?_;rintro e w2 ⟨rfl,hb⟩;rw [HIM.out];replace HX:=V (HX.out.below hb HX.out.lt);replace HB:=V (HB.out.trans (hb.mono HB.out.size));have QS:uj X b (off+i) bt My ti (.slice (some ⟨bt,My,none⟩) m.types.length Pc) (.slice ai m.imports.length ci) (.slice (some ⟨b,off,none⟩) m.funcs.length cf) (.slice ap t.params.length cp) (.slice ar t.results.length cr) (ti:Int) w2.drew:=(hS1.keeps (dU.dW (S:=fun _=>False) hb) (fun _ h=>h.elim)).keeps (dU.dW (S:=fun _=>False) (an _ _).drew) (fun _ h=>h.elim);have HXD:=V HX.out.drew;have Re:=V HB.out.drew;clear hb hS1 HI f1 f2 f3;go_wp2_with fail;refine ea (uj X b (off+i) bt My ti (.slice (some ⟨bt,My,none⟩) m.types.length Pc) (.slice ai m.imports.length ci) (.slice (some ⟨b,off,none⟩) m.funcs.length cf) (.slice ap t.params.length cp) (.slice ar t.results.length cr) (ti:Int)) (up 0 22 ((22,false)::(23,true)::[])) (by kernel_rfl) (by kernel_rfl) QS ?_;generalize w2.drew=w3 at HXD Re QS⊢;iterate 22 (first | (apply sk rfl rfl;simp only [pt]) | (apply dV rfl rfl rfl;·(rintro w' ⟨t0,t1,t2,t3,t4,t5⟩;go_wp2;exact⟨rfl,rfl,rfl⟩)))
 refine dZ rfl rfl ?_;obtain⟨x0,x1,z0,z1⟩:=HXD.out.two;go_wp2_with fail;have Lx:=fp w3 w.heap.size (.slice ap t.params.length cp) (.slice ar t.results.length cr);refine⟨QS.keeps Lx (fun g hg=> .inr (by have:=HN.out;omega)),?_⟩;have Ov:=HXD.out.mL (.slice ap t.params.length cp) (.slice ar t.results.length cr);have HL:=V Ov.kr;have Nw:=V (Re.out.trans (Lx.below Re.out.size (fun i hi=>by omega)));clear Lx Ov x0 x1 z0 z1 QS;iterate 1 (first | (apply sk rfl rfl;simp only [pt]) | (apply dV rfl rfl rfl;·(rintro w' ⟨t0,t1,t2,t3,t4,t5⟩;go_wp2;exact⟨rfl,rfl,rfl⟩)))
 refine eF ?_;refine aA ?_;go_wp2_with fail;refine aF (eY rfl _ _ rfl HL.out) rfl ?_;exact⟨_,_,rfl,HP.out.ext (jB Nw.out),HR.out.ext (jB Nw.out),Nw.out⟩
def kF (l1 l2:List eX) (res:Bool):List eX:=if res=true then l1++(l1++l2).getLast?.toList else l1
def I5 (b:Nat) (pre post:List Value) (t:TypeId) (uv uf:Value) (us:List (Value × Value)) (RF:List eX) (s:fy) (w:World) (e:Ending) (w':World):Prop:=
 ∃uv',e= .returned (.tuple #[])/\fM w' b pre post t ⟨uv',uf,us⟩ {s with dX:=RF}/\kP ⟨uv,uf,us⟩ ⟨uv',uf,us⟩ b w w'
theorem Fs (w:World) (D X b g k J:Nat) (pre post:List Value) (t:TypeId) (uv uf:Value) (us:List (Value × Value)) (l1 l2:List eX) (eg:List eR) (asks:Int) (hz:Int) (hhz:hz=l1.length) (res:Bool) (L6:res=true ->l1++l2≠[])
  (LS:fM w b pre post t ⟨uv,uf,us⟩ ⟨l1++l2,eg,asks⟩) (hd:kb w D X b pre.length g k J) (hn:l1.length+l2.length <=100000):
  Calls prog 98 #[.pointer (some ⟨D,0,none⟩), .int .i64 hz, .bool res] w (I5 b pre post t uv uf us (kF l1 l2 res) ⟨l1++l2,eg,asks⟩ w):=by
 subst hhz;obtain⟨av,cv,huv,M6,Nc⟩:=LS.dX.slice;simp only [ah]at huv M6;subst huv;have LR:=(an w.heap.size w).drew;have Lz:=V LS.drew;have HD:=V hd.drew;have HT:=V (kP.dW (v:=⟨.slice av (l1.length+l2.length) cv,uf,us⟩) (b:=b) LR);have d1:=HD.out.d1;have c0:World.cell? _ ⟨b,pre.length,none⟩=some (.slice av (l1.length+l2.length) cv):=Lz.out.c0;have MQ:=fun wx=>za av (l1.length+l2.length) cv l1.length (by omega) wx;have HC:=V (show dS 52 2 fD w.drew 0 (.slice av l1.length cv) l1 by
   have h:=dS.take fI Lz.out.dX l1.length (by simp)
   rwa [dw rfl]at h)
 clear LS hd LR;cases res
 ·clear L6
  go_enter func98,ntmps98;go_wp2_with fail;refine eK (fun w'=>w'.cell? ⟨D,1,none⟩=some (.pointer (some ⟨b,pre.length,none⟩))/\w'.cell? ⟨b,pre.length,none⟩=some (.slice av (l1.length+l2.length) cv)) 15 (up 0 15 []) (by kernel_rfl) (by kernel_rfl) ⟨d1,c0⟩ ?_;clear d1 c0;generalize w.drew=w1 at Lz HD HT HC⊢;iterate 15 (first | (apply sk rfl rfl;simp only [pt]) | (apply dV rfl rfl rfl;·(rintro w' ⟨t0,t1⟩;go_wp2;exact⟨rfl,rfl,rfl⟩)))
  refine fu rfl rfl ?_;have c0:w1.cell? ⟨b,pre.length,none⟩=some (.slice av (l1.length+l2.length) cv):=Lz.out.c0;have z0:=Lz.out.jq.free pre.length;go_wp2;refine⟨trivial,?_⟩;refine aA ?_;go_wp2
  go_end0
  obtain⟨h1,h2⟩:=Lz.out.xF HC.out (dU.refl _ _) (fun i hi=> .inl ((dS.same i).1 hi));exact⟨_,rfl,h1,HT.out.trans h2⟩
 ·obtain⟨l,x,hlx⟩:=qQ (L6 rfl)
  have HL:=V hlx;have HK:Hid (kF l1 l2 true=l1++[x]):=V (by unfold kF;rw [if_pos rfl,hlx];simp);clear L6 hlx;go_enter func98,ntmps98;go_wp2_with fail;refine eK (fun w'=>w'.cell? ⟨D,1,none⟩=some (.pointer (some ⟨b,pre.length,none⟩))/\w'.cell? ⟨b,pre.length,none⟩=some (.slice av (l1.length+l2.length) cv)) 19 (up 0 14 ((14,false)::(15,false)::(16,false)::(17,true)::(18,true)::[])) (by kernel_rfl) (by kernel_rfl) ⟨d1,c0⟩ ?_;clear d1 c0;generalize w.drew=w1 at Lz HD HT HC⊢;iterate 14 (first | (apply sk rfl rfl;simp only [pt]) | (apply dV rfl rfl rfl;·(rintro w' ⟨t0,t1⟩;go_wp2;exact⟨rfl,rfl,rfl⟩)))
  clear MQ;refine dZ rfl rfl ?_;go_wp2_with fail;refine(ze w1 D b pre.length 0 (.slice av (l1.length+l2.length) cv) l x HD.out.d1 Lz.out.c0 (by rw [<- HL.out];exact Lz.out.dX)).mono ?_;rintro e w2 ⟨rfl,hb⟩;replace Lz:=V (Lz.out.below hb);replace HD:=V (HD.out.below hb);replace HT:=V (HT.out.below hb);replace HC:=V (HC.out.below hb);clear hb;go_wp2_with fail;refine⟨⟨HD.out.d1,Lz.out.c0⟩,?_⟩;refine dZ rfl rfl ?_;go_wp2_with fail;refine⟨⟨(HD.out.alloc _).d1,(Lz.out.alloc _).c0⟩,?_⟩;refine dZ rfl rfl ?_;go_wp2_with (first | (at_builtin;refine fb w2 rfl _ _ 47 rfl _ 16 (by kernel_rfl) kL rfl (by decide) (by decide) 0 (.slice av l1.length cv) l1 rfl HC.out (⟨x.kind,x.n⟩:eX) _ rfl rfl (lD _) rfl (by omega) (bB _) ?_));intro v2 w3 ho hk hs;obtain⟨a2,c2,MS,-,-⟩:=ho.slice;have e2:(l1++[(⟨x.kind,x.n⟩:eX)]).length=l1.length+1:=by simp
  rw [e2]at MS;subst MS;replace hk:dU (ez (.slice av (l1.length+l2.length) cv)) w2 w3:=hk.mono (fun i hi=>(dS.same i).1 hi);replace hs:eB w2 (.slice av (l1.length+l2.length) cv) (.slice a2 (l1.length+1) c2):=fun i hi=>(hs i hi).imp (fun h=>(dS.same i).1 h) id;have LN:=Lz.out.GB hk;have HP:=V (Lz.out.xF ho hk hs);have d1:=(HD.out.keeps hk (fun hg=>HD.out.not Lz.out (.inr (.inl hg)))).d1;have c0:w3.cell? ⟨b,pre.length,none⟩=some (.slice av (l1.length+l2.length) cv):=(LN.1.cell _).trans (rC _ _ _ _);have z0:=LN.1.free pre.length;clear LN hk hs ho e2;go_wp2_with fail;refine⟨⟨d1,c0⟩,?_⟩;iterate 2 (first | (apply sk rfl rfl;simp only [pt]) | (apply dV rfl rfl rfl;·(rintro w' ⟨t0,t1⟩;go_wp2;exact⟨rfl,rfl,rfl⟩)))
  refine fu rfl rfl ?_;go_wp2;refine⟨trivial,?_⟩;refine aA ?_;go_wp2
  go_end0
  rw [HK.out];exact⟨_,rfl,HP.out.1,HT.out.trans HP.out.2⟩
def mC (m:eu) (f:Int) (t:gw):Prop:=
 (∃(i ti:Nat) (x:jD),m.imports[i]?=some x/\x.type=(ti:Int)/\m.types[ti]?=some t/\f=(i:Int))\/∃i ti:Nat,m.funcs[i]?=some (ti:Int)/\m.types[ti]?=some t/\f=((m.imports.length+i:Nat):Int)
theorem pA (w:World) (FX:Nat ->Bool) (X:Nat) (iv:ly) (m:eu) (h:iw w FX X iv m) (t:gw) (f:Int) (hf:mC m f t) (hk:m.imports.length+m.funcs.length <=100000):
  Calls prog 43 #[.pointer (some ⟨X,0,none⟩), .int .i64 f] w (Bi FX t w):=by
 rcases hf with⟨i,ti,x,h1,h2,h3,h4⟩ | ⟨i,ti,h1,h2,h3⟩
 ·exact FZ w FX X iv m h i ti x t h1 h2 h3 f h4 hk
 ·exact Gv w FX X iv m h i ti t h1 h2 f h3 hk
def vw (vs:List eX) (lo:List eR) (asks:Int):gT × fy:=if 0 < lo.length then(.more,⟨vs,lo,asks⟩)else(⟨3,0,0,vs⟩,⟨vs,lo,asks⟩)
def Kk (T:Nat) (t:gw) (w0 w:World):Prop:=∃ap cp ar cr,eD w T #[.slice ap t.params.length cp, .slice ar t.results.length cr] 69/\cr <=9223372036854775807/\Below w0.heap.size w0 w/\w0.heap.size <=T
theorem D2 (l1 l2:List eX) (res:Bool) (h:l1.length+l2.length <=50000):(kF l1 l2 res).length <=1000000:=by
 unfold kF;split
 ·rw [ah]
  have:(l1++l2).getLast?.toList.length <=1:=by cases(l1++l2).getLast? <;>simp
  omega
 ·omega
theorem GW (w:World) (FX:Nat ->Bool) (D X b g J cap:Nat) (iv:ly) (m:eu) (pre post:List Value) (t:TypeId) (uv:Value) (us:List (Value × Value)) (u:Value × Value) (l1 l2:List eX) (lo:List eR) (fq:eR) (asks:Int) (ty:gw)
  (LS:fM w b pre post t ⟨uv, .slice (some ⟨g,0,none⟩) (lo.length+1) cap,us++[u]⟩ ⟨l1++l2,lo++[fq],asks⟩) (hd:kb w D X b pre.length g (lo.length*5) J) (Ml:iw w FX X iv m) (PM:mC m fq.fn ty) (hk:m.imports.length+m.funcs.length <=100000)
  (LW:fq.base=(l1.length:Int)) (L6:0 < ty.results.length ->l1++l2≠[]) (hn:l1.length+l2.length <=50000):
  Calls prog 60 #[.pointer (some ⟨D,0,none⟩)] w (fW b pre post t ⟨uv, .slice (some ⟨g,0,none⟩) (lo.length+1) cap,us++[u]⟩ (vw (kF l1 l2 (decide (0 < ty.results.length))) lo asks) w):=by
 have LR:=(an w.heap.size w).alloc (ag _) (.cells #[.int .i64 0, .int .i64 0, .int .i64 0, .slice none 0 0] 49);have HX:=V (eD.new w #[.int .i64 0, .int .i64 0, .int .i64 0, .slice none 0 0] 49);have Ra:=V LS;have Lz:=V (LS.below LR);have HD:=V (hd.below LR);have L9:=V (Ml.below LR);have P2:=V PM;have HT:=V (kP.dW (v:=⟨uv, .slice (some ⟨g,0,none⟩) (lo.length+1) cap,us++[u]⟩) (b:=b) LR);have HBS:=V LW;have HRS:=V L6;have Mf:=LS.jq.lt;clear LS hd Ml LR PM LW L6;go_enter func60,ntmps60;go_wp2_with fail;generalize(w.alloc (.cells #[.int .i64 0, .int .i64 0, .int .i64 0, .slice none 0 0] 49))=w0 at HX Lz HD L9 HT⊢;refine wp_cut (fun a' w'=>∃(T:Nat),a'=fr (.pointer (some ⟨D,0,none⟩)::gs a' 1 1 (.pointer (some ⟨w.heap.size,0,none⟩):: .pointer (some ⟨T,0,none⟩)::gs a' 4 71 []))/\Kk T ty w0 w') ?_ ?_
 ·obtain⟨⟨p0,-,-,-,-⟩,-,-,-,-,-,-⟩:=Lz.out.cells
  have d0:=HD.out.d0;have d2:=HD.out.d2;have HSB:=V (show∀w',Below w0.heap.size w0 w' ->w'.cell? ⟨D,0,none⟩=some (.pointer (some ⟨X,0,none⟩))/\w'.cell? ⟨D,2,none⟩=some (.pointer (some ⟨g,lo.length*5,none⟩))/\w'.cell? ⟨g,lo.length*5,none⟩=some (.int .i64 fq.fn)from
   fun w' hb=>⟨(Ext.dW hb).1 _ _ d0,(Ext.dW hb).1 _ _ d2,(Ext.dW hb).1 _ _ p0⟩)
  refine lC (fun w'=>w'.cell? ⟨D,0,none⟩=some (.pointer (some ⟨X,0,none⟩))/\w'.cell? ⟨D,2,none⟩=some (.pointer (some ⟨g,lo.length*5,none⟩))/\w'.cell? ⟨g,lo.length*5,none⟩=some (.int .i64 fq.fn)) (ord [(0,true),(1,true),(2,true),(3,true),(4,true),(5,true),(6,true),(7,true),(8,true),(9,true),(10,true)]
   (.fork 11 15 (ord [(12,true),(13,true),(14,true),(15,false),(16,false),(17,true)] .nil) (ord [(11,false),(12,true),(13,true),(14,true),(16,false),(17,true)] .nil))) (by kernel_rfl) (by kernel_rfl) (HSB.out _ (an _ _).drew) ?_
  clear p0 d0 d2;dsimp only [ord];iterate 11 (first | (apply ord_skip rfl rfl;simp only [Act.put,aW,bz,bC]) | (apply im rfl rfl rfl;·(rintro w' ⟨t0,t1,t2⟩;go_wp2;exact⟨rfl,rfl,rfl⟩)))
  refine o7 rfl rfl rfl rfl ?_ ?_
  ·go_wp2_with fail
   refine(pA _ FX X iv m (L9.out.below (an _ _).drew) ty fq.fn P2.out hk).mono ?_;rintro e w2 ⟨u1,u2,rfl,h1,h2,LP⟩;have hb:Below w0.heap.size w0 w2:=fF LP;obtain⟨ap,cp,rfl,-,-⟩:=h1.sl;obtain⟨ar,cr,rfl,-,hcr⟩:=h2.sl;have HB:=V hb;clear h1 h2 hb LP;go_wp2_with fail;refine⟨HSB.out _ HB.out,?_⟩;iterate 3 (first | (apply ord_skip rfl rfl;simp only [Act.put,aW,bz,bC]) | (apply im rfl rfl rfl;·(rintro w' ⟨t0,t1,t2⟩;go_wp2;exact⟨rfl,rfl,rfl⟩)))
   refine fE rfl rfl ?_;have Lw:=HB.out.alloc HB.out.size (.cells #[.slice none 0 0, .slice none 0 0] 69);have hT:=eD.new w2 #[.slice none 0 0, .slice none 0 0] 69;have hT1:=HB.out.size;go_wp2_with fail;refine⟨HSB.out _ Lw,?_⟩;refine fE rfl rfl ?_;generalize w2.alloc (.cells #[.slice none 0 0, .slice none 0 0] 69)=w3 at Lw hT⊢;obtain⟨x0,x1,z0,z1⟩:=hT.two;go_wp2_with fail;have Lx:=fp w3 w2.heap.size (.slice ap ty.params.length cp) (.slice ar ty.results.length cr);have LZ:=Lw.trans (Lx.below Lw.size (fun i hi=>by omega));refine⟨HSB.out _ LZ,?_⟩;iterate 1 (first | (apply ord_skip rfl rfl;simp only [Act.put,aW,bz,bC]) | (apply im rfl rfl rfl;·(rintro w' ⟨t0,t1,t2⟩;go_wp2;exact⟨rfl,rfl,rfl⟩)))
   refine ma ?_;refine aA ?_;exact⟨rfl,w2.heap.size,rfl,ap,cp,ar,cr,hT.mL _ _,hcr,LZ,hT1⟩
  ·have Lw:=((an w0.heap.size w0).alloc (ag _) (.cells #[.slice none 0 0, .slice none 0 0] 69)).drew
   have hT:=(eD.new w0 #[.slice none 0 0, .slice none 0 0] 69).drew;go_wp2_with fail;refine⟨HSB.out _ Lw,?_⟩;refine fE rfl rfl ?_;have LY:=V Lw;have HT2:=V hT;generalize(w0.alloc (.cells #[.slice none 0 0, .slice none 0 0] 69)).drew=w3 at LY HT2⊢;clear Lw hT;go_wp2_with fail;refine(pA _ FX X iv m (L9.out.below LY.out) ty fq.fn P2.out hk).mono ?_;rintro e w4 ⟨u1,u2,rfl,h1,h2,hb⟩;obtain⟨ap,cp,rfl,-,-⟩:=h1.sl;obtain⟨ar,cr,rfl,-,hcr⟩:=h2.sl;have MN:=LY.out.trans (hb.mono LY.out.size);have hT4:=HT2.out.below hb HT2.out.lt;clear h1 h2 hb LY HT2;go_wp2_with fail;refine⟨HSB.out _ MN,?_⟩;iterate 3 (first | (apply ord_skip rfl rfl;simp only [Act.put,aW,bz,bC]) | (apply im rfl rfl rfl;·(rintro w' ⟨t0,t1,t2⟩;go_wp2;exact⟨rfl,rfl,rfl⟩)))
   refine fE rfl rfl ?_;obtain⟨x0,x1,z0,z1⟩:=hT4.two;go_wp2_with fail;have Lx:=fp w4 w0.heap.size (.slice ap ty.params.length cp) (.slice ar ty.results.length cr);have Mh:=MN.trans (Lx.below MN.size (fun i hi=>by omega));refine⟨HSB.out _ Mh,?_⟩;iterate 1 (first | (apply ord_skip rfl rfl;simp only [Act.put,aW,bz,bC]) | (apply im rfl rfl rfl;·(rintro w' ⟨t0,t1,t2⟩;go_wp2;exact⟨rfl,rfl,rfl⟩)))
   refine ma ?_;refine aA ?_;exact⟨rfl,w0.heap.size,rfl,ap,cp,ar,cr,hT4.mL _ _,hcr,Mh,ag _⟩
 ·skip
  rintro a' w1 ⟨T,Lv,hJ⟩;dsimp only [fr,gs]at Lv;generalize slot a'=f at Lv;subst Lv;obtain⟨ap,cp,ar,cr,hT,hcr,hb,hTn⟩:=hJ;replace HX:=V (HX.out.below hb HX.out.lt);replace Lz:=V (Lz.out.below hb);replace HD:=V (HD.out.below hb);replace HT:=V (HT.out.below hb);have hww:=hb.size;clear hb L9 P2;obtain⟨⟨-,-,-,p3,-⟩,-,-,-,-,-,-⟩:=Lz.out.cells;rw [HBS.out]at p3;have hS:w1.drew.cell? ⟨D,2,none⟩=some (.pointer (some ⟨g,lo.length*5,none⟩))/\w1.drew.cell? ⟨g,lo.length*5+3,none⟩=some (.int .i64 (l1.length:Int))/\w1.drew.cell? ⟨T,1,none⟩=some (.slice ar ty.results.length cr):=⟨HD.out.d2,p3,hT.two.2.1⟩;clear p3;obtain⟨res,L6⟩:∃res,decide (0 < ty.results.length)=res:=⟨_,rfl⟩;have f1:decide ((0:Int) < (ty.results.length:Int))=res:=by rw [<- L6];congr 1;apply propext;omega
  have HRS:=V (show res=true ->l1++l2≠[]from fun h=>HRS.out (by rw [h]at L6;exact cD L6));have HRE:=V L6;go_wp2_with fail;refine eK (fun w'=>w'.cell? ⟨D,2,none⟩=some (.pointer (some ⟨g,lo.length*5,none⟩))/\w'.cell? ⟨g,lo.length*5+3,none⟩=some (.int .i64 (l1.length:Int))/\w'.cell? ⟨T,1,none⟩=some (.slice ar ty.results.length cr)) 12 (up 0 12 []) (by kernel_rfl) (by kernel_rfl) hS ?_;clear hS;iterate 12 (first | (apply sk rfl rfl;simp only [pt]) | (apply dV rfl rfl rfl;·(rintro w' ⟨t0,t1,t2⟩;go_wp2;exact⟨rfl,rfl,rfl⟩)))
  refine fu rfl rfl ?_;replace HX:=V HX.out.drew;replace Lz:=V Lz.out.drew;replace HD:=V HD.out.drew;replace HT:=V HT.out.drew;clear hT L6;generalize w1.drew=w2 at HX Lz HD HT⊢;clear f1;go_wp2_with fail;refine(Fs w2 D X b g (lo.length*5) J pre post t uv (.slice (some ⟨g,0,none⟩) (lo.length+1) cap) (us++[u]) l1 l2 (lo++[fq]) asks _ rfl res HRS.out Lz.out HD.out (by omega)).mono ?_;rintro e w3 ⟨uv',rfl,hst3,ht3⟩;have hXn:=Lz.out.not HX.out (by omega) (by decide);replace HX:=V (HX.out.keeps ht3.1 hXn);replace HD:=V (HD.out.keeps ht3.1 (HD.out.not Lz.out));replace HT:=V (HT.out.trans ht3);replace Lz:=V hst3;clear hst3 ht3 hXn;go_wp2;refine⟨trivial,?_⟩;refine aA ?_;have hS:w3.drew.cell? ⟨D,1,none⟩=some (.pointer (some ⟨b,pre.length,none⟩))/\w3.drew.cell? ⟨b,pre.length+1,none⟩=some (.slice (some ⟨g,0,none⟩) (lo.length+1) cap):=⟨HD.out.d1,Lz.out.c1⟩;obtain⟨-,-,-,-,-,L7,Nc⟩:=Lz.out.cells;have MQ:=fun wx=>Gq (some ⟨g,0,none⟩) (lo.length+1) cap lo.length (by omega) wx;go_wp2_with fail;refine eK (fun w'=>w'.cell? ⟨D,1,none⟩=some (.pointer (some ⟨b,pre.length,none⟩))/\w'.cell? ⟨b,pre.length+1,none⟩=some (.slice (some ⟨g,0,none⟩) (lo.length+1) cap)) 23 (up 0 23 []) (by kernel_rfl) (by kernel_rfl) hS ?_;clear hS;replace HX:=V HX.out.drew;replace Lz:=V Lz.out.drew;replace HD:=V HD.out.drew;replace HT:=V HT.out.drew;generalize w3.drew=w4 at HX Lz HD HT⊢;iterate 23 (first | (apply sk rfl rfl;simp only [pt]) | (apply dV rfl rfl rfl;·(rintro w' ⟨t0,t1⟩;go_wp2;exact⟨rfl,rfl,rfl⟩)))
  clear MQ;refine fu rfl rfl ?_;have c1:w4.cell? ⟨b,pre.length+1,none⟩=some (.slice (some ⟨g,0,none⟩) (lo.length+1) cap):=Lz.out.c1;have z1:=Lz.out.jq.free (pre.length+1);go_wp2;refine⟨trivial,?_⟩;refine aA ?_;clear c1 z1;obtain⟨h1,h2⟩:=Lz.out.GC;have hXn:=Lz.out.not HX.out (by omega) (by decide);replace HX:=V (HX.out.keeps h2.1 hXn);replace HD:=V (HD.out.keeps h2.1 (HD.out.not Lz.out));replace HT:=V (HT.out.trans h2);replace Lz:=V h1;clear h1 h2 hXn;generalize w4.setCell ⟨b,pre.length+1,none⟩ (.slice (some ⟨g,0,none⟩) lo.length cap)=w5 at HX Lz HD HT⊢;have d1:=HD.out.d1;have c1:w5.cell? ⟨b,pre.length+1,none⟩=some (.slice (some ⟨g,0,none⟩) lo.length cap):=Lz.out.c1;by_cases q:0 < lo.length
  ·have f1:decide ((0:Int) < (lo.length:Int))=true:=ay (by omega)
   have f2:decide (0 < lo.length)=true:=ay q;have HR:=V (show vw (kF l1 l2 res) lo asks=(.more,⟨kF l1 l2 res,lo,asks⟩)by unfold vw;rw [if_pos q]);clear q;go_wp2_with fail;refine(tR _).mono ?_;rintro e w6 ⟨rfl,hb⟩;replace HX:=V (HX.out.below hb HX.out.lt);replace Lz:=V (Lz.out.below hb);replace HT:=V (HT.out.below hb);clear hb d1 c1;obtain⟨⟨x0,x1,x2,x3⟩,z0,z1,z2,z3⟩:=HX.out.four;go_wp2_with fail;refine aF (ej rfl _ _ rfl (kq HX.out rfl 1 0 0 (.slice none 0 0))) rfl ?_;rw [HRE.out];exact fW.mk HR.out Lz.out HT.out (Lz.out.not HX.out (by omega) (by decide)) (dS.nil _ _) (fun g hg=>by simp [ez,Value.ownBlock]at hg) (by simp [ez,Value.ownBlock]) 1 0 0 rfl rfl rfl
  ·have f1:decide ((0:Int) < (lo.length:Int))=false:=aw (by omega)
   have f2:decide (0 < lo.length)=false:=aw q;have HR:=V (show vw (kF l1 l2 res) lo asks=(⟨3,0,0,kF l1 l2 res⟩,⟨kF l1 l2 res,lo,asks⟩)by unfold vw;rw [if_neg q]);clear q;obtain⟨av,cv,huv,-,M6⟩:=Lz.out.dX.slice;have c0:w5.cell? ⟨b,pre.length,none⟩=some (.slice av (kF l1 l2 res).length cv):=by rw [<- huv];exact Lz.out.c0
   have HV:=V (show ee 2 fD w5 (.slice av (kF l1 l2 res).length cv) (kF l1 l2 res)by rw [<- huv];exact Lz.out.dX.fH fI);have HW:=V HT.out.1.size;clear huv;go_wp2_with fail;refine(mP _ (kF l1 l2 res) w5 HV.out (D2 l1 l2 res (by omega))).mono ?_;rintro e w6 ⟨vv,rfl,ho,hb⟩;obtain⟨a2,c2,rfl,-,-⟩:=ho.slice;have HO:=V ho;have HL:=V hb.size;have HN:=V (fun g (hg:ez (.slice a2 (kF l1 l2 res).length c2) g)=>show w5.heap.size <=g from(ey ho hg).1);have Qe:=V (fun g hg=>Lz.out.lt (g:=g) hg);have HXL:=V HX.out.lt;replace HX:=V (HX.out.below hb HX.out.lt);replace Lz:=V (Lz.out.below hb);replace HT:=V (HT.out.below hb);clear hb d1 c1 c0 ho;obtain⟨⟨x0,x1,x2,x3⟩,z0,z1,z2,z3⟩:=HX.out.four;go_wp2_with fail;refine aF (ej rfl _ _ rfl (kq HX.out rfl 3 0 0 (.slice a2 (kF l1 l2 res).length c2))) rfl ?_;rw [HRE.out];exact fW.mk HR.out Lz.out HT.out (Lz.out.not HX.out (by omega) (by decide)) (HO.out.lower HW.out) (fun g hg h=>by have:=HN.out g hg;have:=Qe.out g h;omega) (fun h=>by have:=HN.out _ h;have:=HXL.out;omega) 3 0 0 rfl rfl rfl
def JO (ks:List Int) (w:World) (e:Ending) (w':World):Prop:=∃v,e= .returned v/\dS 3 1 eU w' w.heap.size v ks/\Below w.heap.size w w'
def FW (T X bc q:Nat) (vp v1 v12 vl:Value) (w:World):Prop:=
 w.cell? ⟨T,0,none⟩=some vp/\w.cell? ⟨X,1,none⟩=some v1/\w.cell? ⟨X,12,none⟩=some v12/\w.cell? ⟨bc,q,none⟩=some vl
theorem FW.ext {T X bc q:Nat} {vp v1 v12 vl:Value} {w w':World} (h:FW T X bc q vp v1 v12 vl w) (he:Ext w w'):FW T X bc q vp v1 v12 vl w':=⟨he.1 _ _ h.1,he.1 _ _ h.2.1,he.1 _ _ h.2.2.1,he.1 _ _ h.2.2.2⟩
theorem dU.vg {B:Nat} {v:Value} {w0 w w':World} {t:TypeId} {k n:Nat} {xs:List Value} (h:Below w0.heap.size w0 w) (ho:w.ownsRow B t k v n xs) (hB:w0.heap.size <=B) (hk:dU (ez v) w w'):Below w0.heap.size w0 w':=
 h.trans (hk.below h.size (fun i hi=>by have:=(ey ho hi).1;omega))
theorem Bf (w:World) (FX:Nat ->Bool) (X:Nat) (iv:ly) (m:eu) (h:iw w FX X iv m) (k:Nat) (c:hI) (ty:gw) (hc:m.eh[k]?=some c) (f:Int) (hf:f=((m.imports.length+k:Nat):Int)) (PM:mC m f ty) (hk:m.imports.length+m.funcs.length <=100000) (M7:k <=100000) (hl:ty.params.length+c.locals.length <=100000):
  Calls prog 49 #[.pointer (some ⟨X,0,none⟩), .int .i64 f] w (JO (ty.params++c.locals) w):=by
 have Mi:=(aG.1 hc).1;have L9:=V h;have HC:=V hc;have HF:=V hf;have HIM:=V (show ki m f=false by rw [hf];simp [ki];omega);have hty2:=pA w FX X iv m h ty f PM hk;clear h hc hf PM;go_enter func49,ntmps49;go_wp2_with fail;refine hty2.mono ?_;clear hty2;rintro e w2 ⟨u1,u2,rfl,h1,h2,hb⟩;obtain⟨ap,cp,rfl,-,hcp⟩:=h1.sl;obtain⟨ar,cr,rfl,-,-⟩:=h2.sl;have HP:=V (h1.ext (rO FX w2));have HB:=V (hb.alloc hb.size (.cells #[.slice ap ty.params.length cp, .slice ar ty.results.length cr] 69));have HT:=V (eD.new w2 #[.slice ap ty.params.length cp, .slice ar ty.results.length cr] 69);replace HP:=V (HP.out.ext (Ext.dW ((an w2.heap.size w2).alloc (ag _) (.cells #[.slice ap ty.params.length cp, .slice ar ty.results.length cr] 69))));clear h1 h2 hb;go_wp2_with fail;generalize w2.alloc (.cells #[.slice ap ty.params.length cp, .slice ar ty.results.length cr] 69)=w3 at HP HB HT⊢;refine(kW w3 FX X iv m (L9.out.below HB.out) f).mono ?_;rintro e w4 ⟨rfl,hb⟩;rw [HIM.out];replace HT:=V (HT.out.below hb HT.out.lt).drew;replace HP:=V (HP.out.ext (Ext.dW hb));replace HB:=V (HB.out.trans (hb.mono HB.out.size)).drew;clear hb;have Ml:=L9.out.below HB.out;obtain⟨b,off,cap,u,NP,L7,Nc,Mf,LM,hi⟩:=ef.at Ml.mod.2.2.2.2.2.2.1 HC.out;obtain⟨ai,ci,h1,-,hcim⟩:=Ml.is.2.1.sl;obtain⟨al,cl,hle,-,hclm⟩:=hi.1.1.sl;have x1:w4.drew.cell? ⟨X,1,none⟩=some (.slice ai m.imports.length ci):=by rw [<- h1];exact Ml.jq.cell 1
 have x12:w4.drew.cell? ⟨X,12,none⟩=some (.slice (some ⟨b,off,none⟩) m.eh.length cap):=by rw [<- NP];exact Ml.jq.cell 12
 have y1:w4.drew.cell? ⟨b,off+k*2,none⟩=some (.slice al c.locals.length cl):=by
  have:=(fP (LM 0 _ rfl)).2;rw [<- hle];exact this
 have HL:=V (show ee 1 eU w4.drew (.slice al c.locals.length cl) c.locals by rw [<- hle];exact hi.1.1.ext (rO FX _));replace HP:=V (show ee 1 eU w4.drew (.slice ap ty.params.length cp) ty.params from HP.out.ext (Ext.dW (an _ _).drew));have hS:FW w2.heap.size X b (off+k*2) (.slice ap ty.params.length cp) (.slice ai m.imports.length ci) (.slice (some ⟨b,off,none⟩) m.eh.length cap) (.slice al c.locals.length cl) w4.drew:=⟨HT.out.two.1,x1,x12,y1⟩;clear Ml LM hi NP h1 hle x1 x12 y1 Mf;have HFF:=HF.out;subst HFF;go_wp2_with fail;refine ea (FW w2.heap.size X b (off+k*2) (.slice ap ty.params.length cp) (.slice ai m.imports.length ci) (.slice (some ⟨b,off,none⟩) m.eh.length cap) (.slice al c.locals.length cl)) ((1,true)::(2,true)::up 4 16 ((0,false)::(3,false)::(20,false)::(21,true)::[])) (by kernel_rfl) (by kernel_rfl) hS ?_;have HS:=V hS;clear hS;generalize w4.drew=w5 at HT HB HS HL HP⊢;iterate 18 (first | (apply sk rfl rfl;simp only [pt]) | (apply dV rfl rfl rfl;·(rintro w' ⟨t0,t1,t2,t3⟩;go_wp2;exact⟨rfl,rfl,rfl⟩)))
 refine dZ rfl rfl ?_;have NF:=(an w5.heap.size w5).alloc (ag _) (.cells #[] 3);have RA:=V NF;clear NF;go_wp2_with fail;refine⟨HS.out.ext (Ext.dW RA.out),?_⟩;refine dZ rfl rfl ?_;have HO:=V (dS.empty (α:=Int) (t:=3) (k:=1) (enc:=eU) w5);have HP2:=V (HP.out.ext (Ext.dW RA.out));have Mq:=RA.out.size;go_wp2_with (first | (at_builtin;refine lQ (w5.alloc (.cells #[] 3)) rfl _ _ rfl rfl w5.heap.size (.slice (some ⟨w5.heap.size,0,none⟩) 0 0) [] rfl HO.out _ ty.params rfl HP2.out (by simp only [aL];omega) Mq ?_));intro v6 w6 ho PG hs6;have Ny:Below w5.heap.size w5 w6:=dU.vg RA.out HO.out (ag _) PG;have HO6:=V (show dS 3 1 eU w6 w5.heap.size v6 ty.params from ho);have HB6:=V Ny;clear ho PG hs6 Ny;obtain⟨a6,c6,rfl,-,-⟩:=HO6.out.slice;go_wp2_with fail;refine⟨HS.out.ext (Ext.dW HB6.out),?_⟩;refine dZ rfl rfl ?_;have QG:=V (HL.out.ext (Ext.dW HB6.out));have hsz6:=HB6.out.size;go_wp2_with (first | (at_builtin;refine lQ w6 rfl _ _ rfl rfl w5.heap.size (.slice a6 ty.params.length c6) ty.params rfl HO6.out _ c.locals rfl QG.out (by omega) hsz6 ?_));intro v7 w7 ho hk7 hs7;have HB7:=V (dU.vg HB6.out HO6.out (ag _) hk7);have HO7:=V ho;clear ho hk7 hs7;go_wp2_with fail;refine⟨HS.out.ext (Ext.dW HB7.out),?_⟩;iterate 1 (first | (apply sk rfl rfl;simp only [pt]) | (apply dV rfl rfl rfl;·(rintro w' ⟨t0,t1,t2,t3⟩;go_wp2;exact⟨rfl,rfl,rfl⟩)))
 refine eF ?_;refine aA ?_;go_wp2;go_ret;exact⟨_,rfl,HO7.out.lower HB.out.size,HB.out.trans (HB7.out.mono HB.out.size)⟩
end Go.Proofs.YtjmeglibedbljaaGreatDoor
