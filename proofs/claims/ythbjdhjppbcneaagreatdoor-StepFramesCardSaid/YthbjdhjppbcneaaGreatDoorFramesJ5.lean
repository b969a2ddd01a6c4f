import Derived.Test.YthbjdhjppbcneaaGreatDoorFramesJ4
import Derived.Deep.Cut
namespace Go.Proofs.YthbjdhjppbcneaaGreatDoor
set_option maxRecDepth 100000
set_option maxHeartbeats 20000000
open Go.RowKit Tryz
open Lib renaming hid->V
set_option linter.all false
theorem jv (b:kl):(wg b).length=3:=rfl
theorem fw (x:Int):(fb x).length=1:=rfl
theorem Cw (b:kl):∀u∈wg b,u.oneCell'=true:=by
 intro u hu;simp only [wg,bB,bJ,cM]at hu;rcases hu with rfl | rfl | rfl <;>rfl
theorem jF:(prog.info? 3).map (fun i=>(i.zero,i.size,i.bytes))=some (some (.int .i64 0),1,8):=by kernel_rfl
theorem Au:(prog.info? 107).map (fun i=>(i.zero,i.size,i.bytes))=some (some (.agg #[.int .i64 0, .int .i64 0, .int .i64 0]),3,24):=by kernel_rfl
theorem py (n:Int) (w:World):Calls prog 73 #[.int .i64 n] w (ew (jS n) w):=by
 by_cases q0:n=2
 ·have f0:=eH q0
  have HB:=V (show jS n=true by rw [q0];rfl);clear q0;go_enter func73,ntmps73;go_wp2_with fail;go_ret;exact⟨by rw [HB.out];rfl,an _ _⟩
 have f0:=dS q0;by_cases q1:n=3
 ·have f1:=eH q1
  have HB:=V (show jS n=true by rw [q1];rfl);clear q0 q1;go_enter func73,ntmps73;go_wp2_with fail;go_ret;exact⟨by rw [HB.out];rfl,an _ _⟩
 have f1:=dS q1;by_cases q2:n=4
 ·have f2:=eH q2
  have HB:=V (show jS n=true by rw [q2];rfl);clear q0 q1 q2;go_enter func73,ntmps73;go_wp2_with fail;go_ret;exact⟨by rw [HB.out];rfl,an _ _⟩
 have f2:=dS q2;have HB:=V (show jS n=false by unfold jS;rw [f0,f1,f2];rfl);clear q0 q1 q2;go_enter func73,ntmps73;go_wp2_with fail;go_ret;exact⟨by rw [HB.out];rfl,an _ _⟩
theorem dT.dropLast {α:Type} {t:TypeId} {k:Nat} {enc:α ->List Value} {w:World} {B:Nat} {a:Option Addr} {m cap:Nat} {l:List α} (h:dT t k enc w B (.slice a (m+1) cap) l) (hm:l.length=m+1) (hk:∀x,(enc x).length=k):
  dT t k enc w B (.slice a m cap) l.dropLast:=by
 obtain⟨hl,hv | ⟨g,KR,cur,hv,hb,hg,hn,hc,hs,ht⟩⟩:=h
 ·injection hv.1 with _ e;omega
 ·have Ok:l.dropLast.length=m:=by rw [dr,hm];rfl
  injection hv with e1 e2 e3;subst e1 e3;refine⟨by rw [jQ hk], .inr ⟨g,cap,cur,by rw [Ok],hb,hg,by rw [Ok];omega,hc,hs,?_⟩⟩;have e4:(l.dropLast.flatMap enc)=(l.flatMap enc).take (m*k):=by
   have Ma:l≠[]:=by intro e;rw [e]at hm;simp at hm
   conv=>rhs;rw [<- da Ma,List.flatMap_append]
   rw [List.take_append_of_le_length (by rw [jQ hk,Ok];exact ag _)];rw [cE (by rw [jQ hk,Ok];exact ag _)]
  rw [e4, <- ht,Ok,List.take_take]
  congr 1
  rw [hm];have:m*k <=(m+1)*k:=dn _ (by omega);omega
theorem vy (a:Option Addr) (m cap:Nat) (h:m+1 <=cap) (wx:World):
  (Instr.slice 25 (.slice a (m+1) cap) none (some (.int .i64 m)) none).run prog wx= .ok (.slice a m cap) wx:=by
 have hu:prog.underlying 25=some (.slice 3):=by kernel_rfl
 obtain⟨i0,hi,M5,LR,Mz⟩:=bX jF;simp [Instr.slice,bp hu,Instr.sliceBounds,Instr.sliceBound,sizeOf,typeInfo,hi,asIntOf,show m <=cap by omega];cases a <;>simp [Addr.add]
def D3 (l:List eK) (w:World) (e:Ending) (w':World):Prop:=
 Below w.heap.size w w'/\((∃bs v,fC l=some bs/\e= .returned (.tuple #[v, .bool true])/\dT 107 3 wg w' w.heap.size v bs)\/(fC l=none/\e= .returned (.tuple #[.slice none 0 0, .bool false])))
def Kb (l:List eK) (w w':World) (va vo:Value) (k:Nat) (all:List kl) (Ob:List Nat):Prop:=
 k <=l.length/\gx l l 0 ([],[])=gx l (l.drop k) k (all,Ob)/\dT 107 3 wg w' w.heap.size va all/\dT 3 1 fb w' w.heap.size vo (Ob.map fun x:Nat=>(x:Int))/\Below w.heap.size w w'/\
 Ob.length <=40/\(∀j∈Ob,j < all.length)/\(∀b∈all,0 <=b.pos/\b.pos < l.length)/\all.length <=k
theorem xj {l:List eK} {k:Nat} {x:eK} {st:List kl × List Nat} (hx:l[k]?=some x) (h:gx l l 0 ([],[])=gx l (l.drop k) k st) (hs:gf l k x st=none) (hl:l.length <=300):fC l=none:=by
 obtain⟨hk,rfl⟩:=aN.1 hx;rw [cq hk,gx,hs]at h;unfold fC;rw [aC (by omega),h];rfl
theorem xM {l:List eK} {k:Nat} {x:eK} {st NN:List kl × List Nat} (hx:l[k]?=some x) (h:gx l l 0 ([],[])=gx l (l.drop k) k st) (hs:gf l k x st=some NN):gx l l 0 ([],[])=gx l (l.drop (k+1)) (k+1) NN:=by
 obtain⟨hk,rfl⟩:=aN.1 hx;rw [cq hk,gx,hs]at h;exact h
theorem pw (v:Value) (l:List eK) (w:World) (hl:gd w v l):Calls prog 34 #[v] w (D3 l w):=by
 obtain⟨a,cap,rfl,h1,h2⟩:=ee.slice hl;have HL:=V hl;clear hl;by_cases q300:l.length <=300;rotate_left
 ·have f0:decide ((300:Int) < (l.length:Int))=true:=aA (by omega)
  have HM:=V (show fC l=none by unfold fC;rw [if_pos (by omega)]);go_enter func34,ntmps34;go_wp2_with fail
  go_ret2
  exact⟨an _ _, .inr ⟨HM.out,rfl⟩⟩
 have f0:decide ((300:Int) < (l.length:Int))=false:=az (by omega);go_enter func34,ntmps34;go_wp2_with fail;clear f0;refine eB (fun a' w'=>∃(va vo:Value) (k:Nat) (all:List kl) (Ob:List Nat),a'=fr (.slice a l.length cap::gs a' 1 3 (va::vo::gs a' 6 6 (.slice a l.length cap:: .int .i64 l.length:: .int .i64 k::gs a' 15 98 [])))/\Kb l w w' va vo k all Ob) (fun a' _=>(l.length - (intOf (a'.tmps.getD 14 undef)).toNat)) ?_ ?_
 ·exact⟨_,_,0,[],[],rfl,by omega,rfl,dT.nil _ _,dT.nil _ _,an _ _,by simp,by simp,by simp,by simp⟩
 ·skip
  rintro R a' w1 ⟨va,vo,k,all,Ob,Kw,hJ⟩ HR;dsimp only [fr,gs]at Kw;generalize slot a'=f at Kw;subst Kw;obtain⟨hk,hgo,KU,hopn,hb,ho40,Li,Pj,hlen⟩:=hJ;obtain⟨ava,capva,rfl,_,hcva,-⟩:=KU.fy jv;obtain⟨avo,capvo,e,_,hcvo,-⟩:=hopn.fy fw;rw [bN]at e;subst e;unfold maxLen at hcva hcvo;obtain⟨n,hn⟩:∃n,Ob.length=n:=⟨_,rfl⟩;rw [hn]at hopn ho40⊢;have MI:=V hn;have HGO:=V hgo;have KN:=V KU;have MO:=V hopn;have KO:=V Li;have HPOS:=V Pj;clear hgo KU hopn Li Pj hn;by_cases q:k < l.length;rotate_left
  ·obtain rfl:k=l.length:=by omega
   have hgo:=HGO.out;rw [List.drop_length,gx]at hgo;rcases n with _ | m
   ·have ho:Ob=[]:=aH MI.out
    have HM:=V (show fC l=some all by unfold fC;rw [if_neg (by omega),hgo];simp [ho]);clear hgo ho;go_wp2_with fail
    go_ret2
    exact⟨hb, .inl ⟨_,_,HM.out,rfl,KN.out⟩⟩
   ·have ho:Ob≠[]:=fun e=>by have:=MI.out;rw [e]at this;simp at this
    have HM:=V (show fC l=none by unfold fC;rw [if_neg (by omega),hgo];simp [ho]);clear hgo ho;go_wp2_with fail
    go_ret2
    exact⟨hb, .inr ⟨HM.out,rfl⟩⟩
  obtain⟨x,hx⟩:∃x,l[k]?=some x:=⟨_,aq q⟩;obtain⟨b,off,u,rfl,KC,hc,hu⟩:=(HL.out.below hb).get hx;obtain⟨⟨au,KD,rfl,-,-,-⟩,-⟩:=id hu;have c0:=hc 0 _ rfl;have c1:=hc 1 _ rfl;have c2:=hc 2 _ rfl;have c3:=hc 3 _ rfl;rw [aL]at c0;obtain⟨op,xa,xb,xl⟩:=x;have HX:=V hx;have PG:=V (fun h=>xj hx HGO.out h q300);have QQ:=V (fun NN h=>xM (NN:=NN) hx HGO.out h);clear hc hu hx;go_wp2_with fail;refine(py op _).mono ?_;rintro e w2 ⟨rfl,Kx⟩;have d0:w2.cell? ⟨w1.heap.size,0,none⟩=some (.int .i64 op):=by rw [Kx.cell (by simp),bQ];rfl
  have hb12:Below w1.heap.size w1 w2:=((an _ _).alloc (ag _) _).trans (Kx.mono (by simp));have hs12:w1.heap.size < w2.heap.size:=by have:=Kx.size;simp at this;omega
  have KN:=V (KN.out.below hb12);have MO:=V (MO.out.below hb12);have hb:=hb.trans (hb12.mono hb.size);clear Kx hb12 c0 c1 c2 c3;cases ho:jS op with
  | true=>
   have HO:=V ho;clear ho;by_cases qn:n=40
   ·subst qn
    have HM:=V (show fC l=none by
     refine PG.out ?_;unfold gf;rw [aJ HO.out,aJ MI.out])
    go_wp2_with fail
    go_ret2
    exact⟨hb, .inr ⟨HM.out,rfl⟩⟩
   have fn:((n:Int)==40)=false:=dS (by omega);have Ky:=V (QQ.out (all++[⟨k,-1,-1⟩],Ob++[all.length]) (by
    unfold gf;rw [aJ HO.out,aC (by rw [MI.out];exact qn)]))
   go_wp2_with fail;refine(py op _).mono ?_;rintro e w3 ⟨rfl,K9⟩;rw [HO.out];have KN:=V (KN.out.below K9);have MO:=V (MO.out.below K9);have hb:=hb.trans (K9.mono hb.size);clear K9 d0 fn;have QO:=MO.out;go_wp2_with (first | (at_builtin;refine eT w3 rfl _ _ 25 rfl _ 8 (by kernel_rfl) jF rfl (by decide) (by decide) w.heap.size (.slice avo n capvo) (Ob.map fun x:Nat=>(x:Int)) rfl QO (all.length:Int) _ rfl rfl (by simp [fb,Value.oneCell']) rfl (by rw [bN,MI.out];omega) hb.size ?_));intro v4 w4 hopn4 Of Mb;have QR:=KN.out.keeps Of (fun i hi=>dT.ne KN.out QO (by decide) i hi);have Mr:=hb.trans (Of.below hb.size (fun i hi=>(et QO hi).1));clear Of Mb QO KN MO;go_wp2_with (first | (at_builtin;refine eT w4 rfl _ _ 103 rfl _ 24 (by kernel_rfl) Au rfl (by decide) (by decide) w.heap.size (.slice ava all.length capva) all rfl QR (⟨k,-1,-1⟩:kl) _ rfl rfl (Cw _) rfl (by omega) Mr.size ?_));intro v5 w5 hall5 NR PH;have hopn5:=hopn4.keeps NR (fun i hi=>dT.ne hopn4 QR (by decide) i hi);have Ly:=Mr.trans (NR.below Mr.size (fun i hi=>(et QR hi).1));have KN:=V hall5;have MO:=V hopn5;clear hall5 hopn5 NR PH QR hopn4 Mr;go_wp2_with fail;refine HR.out _ _ ⟨_,_,k+1,all++[⟨k,-1,-1⟩],Ob++[all.length],rfl,by omega,Ky.out,KN.out,by rw [cn];exact MO.out,Ly,?_,?_,?_,?_⟩ ?_
   ·rw [ah,MI.out]
    show n+1 <=40;omega
   ·intro j hj
    rw [ah];show j < all.length+1;rcases bx.1 hj with h | h
    ·have:=KO.out j h
     omega
    ·rw [aV.1 h]
     omega
   ·intro b' KT
    rcases bx.1 KT with h | h
    ·exact HPOS.out b' h
    ·rw [aV.1 h]
     exact⟨by simp only;omega,by simp only;omega⟩
   ·rw [ah]
    show all.length+1 <=k+1;omega
   ·simp [intOf]
    omega
  | false=>
   have HO:=V ho;clear ho;go_wp2_with fail;refine(py op _).mono ?_;rintro e w3 ⟨rfl,K9⟩;rw [HO.out];have d1:w3.cell? ⟨w1.heap.size,0,none⟩=some (.int .i64 op):=by rw [K9.cell hs12];exact d0
   have KN:=V (KN.out.below K9);have MO:=V (MO.out.below K9);have hb:=hb.trans (K9.mono hb.size);clear K9 d0 hs12;by_cases q5:op=5
   ·subst q5
    rcases n with _ | m
    ·have ho:Ob=[]:=aH MI.out
     have HM:=V (PG.out (by
      unfold gf;rw [aC (by rw [HO.out];decide),aC (by simp),ho];rfl))
     clear ho;go_wp2_with fail
     go_ret2
     exact⟨hb, .inr ⟨HM.out,rfl⟩⟩
    have hm0:((m:Int)+1==0)=false:=dS (by omega);obtain⟨j,hj⟩:∃j,Ob[m]?=some j:=⟨_,aq (by rw [MI.out];omega)⟩;have hja:=KO.out j (aO hj);obtain⟨bb,hbj⟩:∃bb,all[j]?=some bb:=⟨_,aq hja⟩;obtain⟨hp0,hp1⟩:=HPOS.out bb (aO hbj);obtain⟨Qm,OS,bfin⟩:=bb;simp only at hp0 hp1;have HGL:=V (show Ob.getLast?=some j by rw [dJ,MI.out];exact hj);obtain⟨go,co,curo,e,-,-,-,hgm,-⟩:=MO.out.open (by intro e;have:=MI.out;rw [List.map_eq_nil_iff.1 e]at this;simp at this);injection e with e1 e2 e3;subst e1 e3;rw [<- e2]at hgm;clear e2;obtain⟨ga,ca,cura,e,hga1,hga2,hga3,-,-⟩:=KN.out.open (by intro e;rw [e]at hja;simp at hja);injection e with e1 e2 e3;subst e1 e3;clear e2;have o0:=MO.out.cell fw (i:=m) (j:=0) (x:=(j:Int)) (by rw [cQ,hj];rfl) rfl;rw [bo,aL]at o0;have a0:=KN.out.cell jv (i:=j) (j:=0) hbj rfl;have a1:=KN.out.cell jv (i:=j) (j:=1) hbj rfl;have a2:=KN.out.cell jv (i:=j) (j:=2) hbj rfl;rw [aL]at a0;have HBJ:=V hbj;clear hbj hj;obtain⟨p,hp⟩:∃p:Nat,Qm=p:=⟨Qm.toNat,by omega⟩;subst hp;have hpl:p < l.length:=by omega
    obtain⟨y,hy⟩:∃y,l[p]?=some y:=⟨_,aq hpl⟩;obtain⟨b',off',u',PB,-,Mh,-⟩:=(HL.out.below hb).get hy;injection PB with PB;injection PB with e1 e2;subst e1 e2;have g0:=Mh 0 _ rfl;rw [aL]at g0;obtain⟨yo,ya,yb,yl⟩:=y;have g0:w3.cell? ⟨b,off+p*4,none⟩=some (.int .i64 yo):=g0;have HY:=V hy;have HMS:=V (show gf l k ⟨5,xa,xb,xl⟩ (all,Ob)=(if yo≠4\/0 <=OS then none else some (all.set j ⟨p,k,bfin⟩,Ob))by
     unfold gf;rw [aC (by rw [HO.out];decide),aC (by simp),HGL.out];simp only;rw [HBJ.out];simp only;rw [aC (by decide)];rw [show((p:Int)).toNat=p by omega,HY.out])
    clear Mh hy;by_cases q4:yo=4;rotate_left
    ·have f4:=ff q4
     have HM:=V (PG.out (by rw [HMS.out,aJ (.inl q4)]));clear q4;go_wp2_with fail
     go_ret2
     exact⟨hb, .inr ⟨HM.out,rfl⟩⟩
    subst q4;by_cases qe:0 <=OS
    ·have f4:decide (0 <=OS)=true:=aA qe
     have HM:=V (PG.out (by rw [HMS.out,aJ (.inr qe)]));go_wp2_with fail
     go_ret2
     exact⟨hb, .inr ⟨HM.out,rfl⟩⟩
    have f4:decide (0 <=OS)=false:=az qe;have Ky:=V (QQ.out _ (by rw [HMS.out,aC (by intro h;rcases h with h | h;exact h rfl;exact qe h)]));have hall':=KN.out.set jv (i:=j) (j:=1) (x:=⟨p,OS,bfin⟩) (y:=⟨p,k,bfin⟩) (u:= .int .i64 k) HBJ.out (by omega) rfl;have hopn':=MO.out.keeps (jb w3 ga (j*3+1) (.int .i64 k)) (fun i hi h=>dT.ne MO.out KN.out (by decide) i hi (by rw [show i=ga from h];rfl));have KT:=hb.setCell (p:=⟨ga,j*3+1,none⟩) hga1 (.int .i64 k);have z:w3.frozen? ⟨ga,j*3+1,none⟩=false:=cY w3 ga _ cura _ hga3;have HALL':=V hall';have HOPN':=V hopn';clear hall' hopn' HMS hga3;go_wp2_with fail;refine HR.out _ _ ⟨_,_,k+1,all.set j ⟨p,k,bfin⟩,Ob,rfl,by omega,Ky.out,HALL'.out,HOPN'.out,KT,by rw [MI.out];exact ho40,fun i hi=>by rw [dj];exact KO.out i hi,fun c hc=>?_,by rw [dj];omega⟩ ?_
    ·rcases dK hc with h | h
     ·exact HPOS.out c h
     ·rw [h]
      exact⟨by simp only;omega,by simp only;omega⟩
    ·simp [intOf]
     omega
   by_cases Ol:op=11
   ·subst Ol
    clear q5;rcases n with _ | m
    ·have ho:Ob=[]:=aH MI.out
     have HM:=V (PG.out (by
      unfold gf;rw [aC (by rw [HO.out];decide),aC (by simp),ho];rfl))
     clear ho;go_wp2_with fail
     go_ret2
     exact⟨hb, .inr ⟨HM.out,rfl⟩⟩
    have hm0:((m:Int)+1==0)=false:=dS (by omega);obtain⟨j,hj⟩:∃j,Ob[m]?=some j:=⟨_,aq (by rw [MI.out];omega)⟩;have hja:=KO.out j (aO hj);obtain⟨bb,hbj⟩:∃bb,all[j]?=some bb:=⟨_,aq hja⟩;obtain⟨hp0,hp1⟩:=HPOS.out bb (aO hbj);obtain⟨Qm,OS,bfin⟩:=bb;simp only at hp0 hp1;have HGL:=V (show Ob.getLast?=some j by rw [dJ,MI.out];exact hj);obtain⟨go,co,curo,e,-,-,-,hgm,-⟩:=MO.out.open (by intro e;have:=MI.out;rw [List.map_eq_nil_iff.1 e]at this;simp at this);injection e with e1 e2 e3;subst e1 e3;rw [<- e2]at hgm;clear e2;obtain⟨ga,ca,cura,e,hga1,hga2,hga3,-,-⟩:=KN.out.open (by intro e;rw [e]at hja;simp at hja);injection e with e1 e2 e3;subst e1 e3;clear e2;have o0:=MO.out.cell fw (i:=m) (j:=0) (x:=(j:Int)) (by rw [cQ,hj];rfl) rfl;rw [bo,aL]at o0;have a0:=KN.out.cell jv (i:=j) (j:=0) hbj rfl;have a1:=KN.out.cell jv (i:=j) (j:=1) hbj rfl;have a2:=KN.out.cell jv (i:=j) (j:=2) hbj rfl;rw [aL]at a0;have HBJ:=V hbj;clear hbj hj;have Ky:=V (QQ.out (all.set j ⟨Qm,OS,k⟩,Ob.dropLast) (by
     unfold gf;rw [aC (by rw [HO.out];decide),aC (by simp),HGL.out];simp only;rw [HBJ.out];simp only;rw [aJ trivial]))
    have hall':=KN.out.set jv (i:=j) (j:=2) (x:=⟨Qm,OS,bfin⟩) (y:=⟨Qm,OS,k⟩) (u:= .int .i64 k) HBJ.out (by omega) rfl;have hopn':=(MO.out.keeps (jb w3 ga (j*3+2) (.int .i64 k)) (fun i hi h=>dT.ne MO.out KN.out (by decide) i hi (by rw [show i=ga from h];rfl))).dropLast (by rw [bN,MI.out]) fw;have KT:=hb.setCell (p:=⟨ga,j*3+2,none⟩) hga1 (.int .i64 k);have z:w3.frozen? ⟨ga,j*3+2,none⟩=false:=cY w3 ga _ cura _ hga3;have N3:=vy (some ⟨go,0,none⟩) m capvo hgm;have HALL':=V hall';have HOPN':=V hopn';clear hall' hopn' hga3;go_wp2_with fail;refine HR.out _ _ ⟨_,_,k+1,all.set j ⟨Qm,OS,k⟩,Ob.dropLast,rfl,by omega,Ky.out,HALL'.out,?_,KT,by rw [dr,MI.out];omega,fun i hi=>by rw [dj];exact KO.out i (List.dropLast_subset _ hi),fun c hc=>?_,by rw [dj];omega⟩ ?_
    ·rw [List.map_dropLast]
     exact HOPN'.out
    ·rcases dK hc with h | h
     ·exact HPOS.out c h
     ·rw [h]
      exact⟨by simp only;omega,by simp only;omega⟩
    ·simp [intOf]
     omega
   have f5:=ff q5;have f11:=ff Ol;have Ky:=V (QQ.out (all,Ob) (by unfold gf;rw [if_neg (by rw [HO.out];decide),if_pos ⟨q5,Ol⟩]));clear q5 Ol;go_wp2_with fail;refine HR.out _ _ ⟨_,_,k+1,all,Ob,rfl,by omega,Ky.out,KN.out,MO.out,hb,by rw [MI.out];exact ho40,KO.out,HPOS.out,by omega⟩ ?_;simp [intOf];omega
section
theorem Ca {bits:Int} (hb:bits <=64) (l:List UInt8):iI (jq bits l).1:=by
 unfold jq;split
 ·exact xN
 ·split
  ·rename_i h
   have h1:(2:Int)^(bits.toNat - 1) <=2^63:=by
    have:=cP (n:=2) (by omega) (show bits.toNat - 1 <=63 by omega)
    exact_mod_cast this
   have h2:(2:Int)^63=9223372036854775808:=by decide
   exact⟨by simp only;omega,by simp only;omega⟩
  ·exact xN
theorem II (L:List UInt8) (c:Nat) (s:IR) (hc:c < 256):(IR.get L c s).1.ok:=by
 have hC:iI (c:Int):=⟨by omega,by omega⟩;have hn:∀n:Nat,n <=4294967295 ->iI (n:Int):=fun n h=>⟨by omega,by omega⟩;have hu:∀lim s,lim <=4294967295 ->iI ((IR.jW L lim s).1:Int):=fun lim s h=>hn _ (aW (IR.Af L lim s) h);have PI:∀n∈([]:List Int),iI n:=by simp
 unfold IR.get;split
 ·refine⟨hC,hn _ ?_,xN,PI⟩
  unfold IR.kind;split
  ·simp
  ·split
   ·simp
   ·split <;>simp
 ·exact⟨hC,hu _ _ (by omega),xN,PI⟩
 ·refine⟨hC,hu _ _ (by omega),xN,?_⟩
  generalize(s.jW L 50).1=k;generalize(s.jW L 50).2=t;intro n hn;rw [List.mem_map]at hn;obtain⟨m,hm,rfl⟩:=hn
  induction k generalizing t with
  | zero=>simp [IR.mc]at hm
  | succ k ih=>
   simp only [IR.mc,bB]at hm;rcases hm with rfl | hm
   ·exact hu _ _ (by omega)
   ·exact ih _ hm
 ·exact⟨hC,hu _ _ (by omega),xN,PI⟩
 ·exact⟨hC,hu _ _ (by omega),hu _ _ (by omega),PI⟩
 ·exact⟨hC,xN,xN,PI⟩
 ·exact⟨hC,Ca (by omega) _,xN,PI⟩
 ·exact⟨hC,Ca (by omega) _,xN,PI⟩
 ·exact⟨hC,xN,xN,PI⟩
theorem get_some {c:UInt8} {l:List UInt8} {x:eK} {s:IR} (hf:fJ c.toNat≠0) (hg:IR.get (c::l) c.toNat ⟨1,0⟩=(x,s)) (h:s.err=0):gu (c::l)=some (x,(c::l).drop s.pos):=by
 obtain⟨h1,h2⟩:=IR.rL c l hf;rw [hg]at h1 h2;rw [IR.rest,aJ h]at h1;cases hi:gu (c::l)with
 | none=>rw [hi]at h1;cases h1
 | some y=>
  rw [hi]at h1;injection h1 with h1;have:=h2 y hi;simp only at this;rw [this,h1]
theorem get_none {c:UInt8} {l:List UInt8} {x:eK} {s:IR} (hf:fJ c.toNat≠0) (hg:IR.get (c::l) c.toNat ⟨1,0⟩=(x,s)) (h:s.err≠0):gu (c::l)=none:=by
 obtain⟨h1,-⟩:=IR.rL c l hf;rw [hg]at h1;rw [IR.rest,aC h]at h1;cases hi:gu (c::l)with
 | none=>rfl
 | some y=>rw [hi]at h1;cases h1
theorem lI {P:Program} {fn:Func} {t0 u0 u1:Tmp} {ty:TypeId} (h:fn.results=#[.cell t0 ty, .tmp u0, .tmp u1]) (tmps:Array Value) (w:World) {a:Addr} {v:Value} (ht:tmps.getD t0 undef= .pointer (some a))
  (hl:(loadVar ty a).run P w= .ok v w):(results fn tmps).run P w= .ok (.tuple #[v,tmps.getD u0 undef,tmps.getD u1 undef]) w:=by
 have ht':tmps[t0]?.getD undef= .pointer (some a):=by simpa using ht
 simp [results,h,ht',asAddr,hl]
theorem eG.BS {w:World} {X:Nat} {x0 x1 x2:Int} {v:Value} {t:TypeId} (h:eG w X #[.int .i64 x0, .int .i64 x1, .int .i64 x2,v] t):
  (loadVar 27 ⟨X,0,none⟩).run prog w= .ok (.agg #[.int .i64 x0, .int .i64 x1, .int .i64 x2,v]) w:=by
 have hs:(prog.underlying 27).map (fun d=>match d with | .struct _ | .array _ _=>true | _=>false)=some true:=by kernel_rfl
 obtain⟨d,h1,h2⟩:=bz.1 hs;exact bY w X t 27 _ _ d h h1 (by cases d <;>first | rfl | (exfalso;simp at h2)) (by kernel_rfl)
def Bz (B:Nat) (w:World) (u:Value):Prop:=∀a n cap,u= .slice (some a) n cap ->B <=a.block/\a.block < w.heap.size
def GA (L:List UInt8) (w:World) (e:Ending) (w':World):Prop:=
 Below w.heap.size w w'/\((∃x r u,gu L=some (x,r)/\e= .returned (.tuple #[.agg #[.int .i64 x.op, .int .i64 x.a, .int .i64 x.b,u], .int .i64 ((L.length - r.length:Nat):Int), .int .i64 0])/\gN w' x u/\Bz w.heap.size w' u)\/
  (∃err:Int,gu L=none/\err≠0/\(0 <=err/\err <=12)/\e= .returned (.tuple #[.agg #[.int .i64 0, .int .i64 0, .int .i64 0, .slice none 0 0], .int .i64 0, .int .i64 err])))
def vw (w0 w:World) (X2 R X6:Nat) (a:Option Addr) (cap:Nat) (L:List UInt8) (s:IR) (op av bv:Int) (u:Value):Prop:=
 sC w0 w R a cap L s/\eG w X6 #[.int .i64 op, .int .i64 av, .int .i64 bv,u] 27/\eG w X2 #[.int .i64 0, .int .i64 0, .int .i64 0, .slice none 0 0] 27/\w0.heap.size <=X2/\X2 < R/\R < X6
section
variable {w0 w w':World} {X2 R X6:Nat} {a:Option Addr} {cap:Nat} {L:List UInt8} {s s':IR} {op av bv:Int} {u:Value}
theorem vw.read (h:vw w0 w X2 R X6 a cap L s op av bv u) (k:sC w0 w' R a cap L s') (hk:dU (fun k=>k=R) w w'):vw w0 w' X2 R X6 a cap L s' op av bv u:=by
 obtain⟨h1,h2,h3,h4,h5,h6⟩:=h;exact⟨k,h2.keeps hk (by omega),h3.keeps hk (by omega),h4,h5,h6⟩
theorem vw.AV (h:vw w0 w X2 R X6 a cap L s op av bv u) (n:Int):vw w0 (w.setCell ⟨X6,1,none⟩ (.int .i64 n)) X2 R X6 a cap L s op n bv u:=by
 obtain⟨h1,h2,h3,h4,h5,h6⟩:=h;have hk:=fh w X6 1 (.int .i64 n);exact⟨h1.keeps hk (by omega) (fun i hi=>by omega),by simpa using h2.set 1 (.int .i64 n),h3.keeps hk (by omega),h4,h5,h6⟩
theorem vw.Ki (h:vw w0 w X2 R X6 a cap L s op av bv u) (n:Int):vw w0 (w.setCell ⟨X6,2,none⟩ (.int .i64 n)) X2 R X6 a cap L s op av n u:=by
 obtain⟨h1,h2,h3,h4,h5,h6⟩:=h;have hk:=fh w X6 2 (.int .i64 n);exact⟨h1.keeps hk (by omega) (fun i hi=>by omega),by simpa using h2.set 2 (.int .i64 n),h3.keeps hk (by omega),h4,h5,h6⟩
theorem vw.JW (h:vw w0 w X2 R X6 a cap L s op av bv u) (v:Value):vw w0 (w.setCell ⟨X6,3,none⟩ v) X2 R X6 a cap L s op av bv v:=by
 obtain⟨h1,h2,h3,h4,h5,h6⟩:=h;have hk:=fh w X6 3 v;exact⟨h1.keeps hk (by omega) (fun i hi=>by omega),by simpa using h2.set 3 v,h3.keeps hk (by omega),h4,h5,h6⟩
theorem vw.keeps {S:Nat ->Prop} (h:vw w0 w X2 R X6 a cap L s op av bv u) (hk:dU S w w') (hS:∀i,S i ->X6 < i):vw w0 w' X2 R X6 a cap L s op av bv u:=by
 obtain⟨h1,h2,h3,h4,h5,h6⟩:=h;exact⟨h1.keeps hk (fun g=>by have:=hS _ g;omega) (fun i hi=>by have:=hS _ hi;omega),h2.keeps hk (fun g=>by have:=hS _ g;omega),h3.keeps hk (fun g=>by have:=hS _ g;omega),h4,h5,h6⟩
theorem vw.drew (h:vw w0 w X2 R X6 a cap L s op av bv u):vw w0 w.drew X2 R X6 a cap L s op av bv u:=⟨h.1.drew,h.2.1.drew,h.2.2.1.drew,h.2.2.2⟩
end
theorem my (w:World) (X:Nat) (y0 y1 y2 y3:Value):dU (fun k=>k=X) w ((((w.setCell ⟨X,0,none⟩ y0).setCell ⟨X,1,none⟩ y1).setCell ⟨X,2,none⟩ y2).setCell ⟨X,3,none⟩ y3):=
 (((fh w X 0 y0).trans (fh _ X 1 y1) (fun _ h=> .inl h)).trans (fh _ X 2 y2) (fun _ h=> .inl h)).trans (fh _ X 3 y3) (fun _ h=> .inl h)
def Kh (w0 w:World) (X2 R X6:Nat) (a:Option Addr) (cap:Nat) (L:List UInt8) (c:Nat) (s1:IR) (n k:Nat) (acc:List Nat) (s:IR) (u:Value):Prop:=
 k <=n/\acc.length=k/\(s1.mc L n).1=acc++(s.mc L (n - k)).1/\(s1.mc L n).2=(s.mc L (n - k)).2/\vw w0 w X2 R X6 a cap L s c 0 0 u/\dT 3 1 fb w (X6+1) u (acc.map fun x:Nat=>(x:Int))
def tK (w:World) (X2 R X6:Nat) (a:Option Addr) (cap:Nat) (L:List UInt8) (c:Nat):Act ->World ->Prop:=
 (fun a' w'=>∃(s:IR) (x:eK) (u:Value),a'=fr (gs a' 0 2 (.pointer (some ⟨X2,0,none⟩):: .int .i64 0:: .int .i64 0:: .pointer (some ⟨R,0,none⟩):: .pointer (some ⟨X6,0,none⟩)::gs a' 7 97 []))/\vw w w' X2 R X6 a cap L s x.op x.a x.b u/\(eg 1 fb w' u x.l/\Bz (X2+1) w' u)/\IR.get L c ⟨1,0⟩=(x,s))
theorem qT (b:Value) (L:List UInt8) (w:World) (hb:eJ w b L) (hl:L.length <=1000000):Calls prog 289 #[b] w (GA L w):=by
 obtain⟨a,cap,rfl,Lk,M8,-⟩:=id hb;have HB:=V hb;unfold maxLen at M8;clear hb;go_enter func289,ntmps289;go_wp2_with fail;have hrd0:sC w ((w.alloc (.cells #[.int .i64 0, .int .i64 0, .int .i64 0, .slice none 0 0] 27)).alloc (.cells #[.slice a L.length cap, .int .i64 0, .int .i64 0] 347)) (w.heap.size+1) a cap L ⟨0,0⟩:=by
  have h1:=eG.new (w.alloc (.cells #[.int .i64 0, .int .i64 0, .int .i64 0, .slice none 0 0] 27)) #[.slice a L.length cap, .int .i64 0, .int .i64 0] 347;rw [aE]at h1;exact⟨h1,HB.out,((an _ _).alloc (ag _) _).alloc (by simp) _,by omega,⟨bK _,by decide,by decide⟩⟩
 have N4:=(eG.new w #[.int .i64 0, .int .i64 0, .int .i64 0, .slice none 0 0] 27).alloc (.cells #[.slice a L.length cap, .int .i64 0, .int .i64 0] 347);refine(qo w _ _ a cap L ⟨0,0⟩ hrd0).mono ?_;rintro e w3 ⟨rfl,h1,hk⟩;obtain⟨c,hc⟩:∃c,(IR.byte L ⟨0,0⟩).1=c:=⟨_,rfl⟩;obtain⟨s1,LZ⟩:∃s1,(IR.byte L ⟨0,0⟩).2=s1:=⟨_,rfl⟩;rw [hc];rw [LZ]at h1;have hx3:=N4.keeps hk (by omega);have N2:w.heap.size+1 < w3.heap.size:=h1.1.lt;have HC:=V hc;have MJ:=V LZ;have K5:=V h1;have Ll:=V hx3;clear h1 hk N4 hx3 hrd0 hc LZ;go_wp2_with fail;refine(tO c _).mono ?_;rintro e w5 ⟨rfl,Ly⟩;have hg:vw w w5 w.heap.size (w.heap.size+1) w3.heap.size a cap L s1 c 0 0 (.slice none 0 0):=by
  have L9:Below w3.heap.size w3 w5:=((an _ _).alloc (ag _) _).trans (Ly.mono (by simp));exact⟨K5.out.keeps (dU.dW (S:=fun _=>False) L9) (fun h=>h) (fun _ h=>h.elim),(eG.new w3 _ _).below Ly (by simp),Ll.out.below L9 Ll.out.lt,ag _,by omega,N2⟩
 have HG:=V hg;clear hg Ly Ll K5 N2;generalize w.heap.size+1=R at HG⊢;generalize w.heap.size=X2 at HG⊢;generalize w3.heap.size=X6 at HG⊢;have QS:L=[]\/∃c0 l,L=c0::l:=by cases L with | nil=>exact .inl rfl | cons c0 l=>exact .inr ⟨c0,l,rfl⟩
 rcases QS with hL | ⟨c0,l,hL⟩
 ·have h1:s1=⟨0,2⟩:=by rw [<- MJ.out,hL];rfl
  have h2:c=0:=by rw [<- HC.out,hL];rfl
  subst h1 h2;have HN:=V (show gu L=none by rw [hL];rfl);have QT:=V (show(2:Int)≠0 by decide);have hf0:fJ ((0:Nat):Int)=1:=by decide
  rw [hf0];clear hf0 hL MJ HC;obtain⟨Mc,-,Nb,MP,hoo2,hoo3⟩:=HG.out;obtain⟨⟨x0,x1,x2,x3⟩,g0,g1,g2,g3⟩:=Nb.four;have d2:(w5).cell? ⟨R,2,none⟩=some (.int .i64 (IR.err ⟨0,2⟩)):=Mc.1.cell 2;have Mn:=my (w5).drew X2 (.int .i64 0) (.int .i64 0) (.int .i64 0) (.slice none 0 0);have Qn:=(Mc.1.drew.keeps Mn (by omega)).cell 2;have HX:=V (Nb.drew.ry (.int .i64 0) (.int .i64 0) (.int .i64 0) (.slice none 0 0));have Om:=V Qn;have Lb:=V (((((Mc.2.2.1.drew).setCell (p:=⟨X2,0,none⟩) MP (.int .i64 0)).setCell (p:=⟨X2,1,none⟩) MP (.int .i64 0)).setCell (p:=⟨X2,2,none⟩) MP (.int .i64 0)).setCell (p:=⟨X2,3,none⟩) MP (.slice none 0 0));clear Mc Nb Mn Qn
  go_upto_region 7 with fail
  refine ef (fun w'=>w'.cell? ⟨R,2,none⟩=some (.int .i64 (IR.err ⟨0,2⟩))) (up 0 5 ((5,false)::(6,true)::(7,true)::[])) (by kernel_rfl) (by kernel_rfl) d2 ?_;iterate 5 (first | (apply sk rfl rfl;simp only [pt]) | (apply dV rfl rfl rfl;·(rintro w' t0;go_wp2;exact⟨rfl,rfl,rfl⟩)))
  refine ed rfl rfl ?_;go_wp2_with fail;refine⟨Om.out,?_⟩;iterate 2 (first | (apply sk rfl rfl;simp only [pt]) | (apply dV rfl rfl rfl;·(rintro w' t0;go_wp2;exact⟨rfl,rfl,rfl⟩)))
  refine eL ?_;refine aD ?_;go_wp2_with fail;refine aM (lI rfl _ _ rfl HX.out.BS) rfl ?_;exact⟨Lb.out, .inr ⟨_,HN.out,QT.out,HG.out.1.2.2.2.2.2,rfl⟩⟩
 ·have h1:s1=⟨1,0⟩:=by rw [<- MJ.out,hL];rfl
  have h2:c=c0.toNat:=by rw [<- HC.out,hL];rfl
  subst h1 h2;have Nw:c0.toNat < 256:=c0.toNat_lt;obtain⟨f,hf⟩:∃f,fJ (c0.toNat:Int)=f:=⟨_,rfl⟩;have QL:f <=9:=by rw [<- hf];exact nT _
  rw [hf];by_cases hz:f=0
  ·subst hz
   have HN:=V (show gu L=none by rw [hL];unfold gu;dsimp only;rw [hf];rfl);have QT:=V (show(1:Int)≠0 by decide);have KS:=HG.out.read (HG.out.1.set (s':=⟨1,1⟩) (i:=2) (v:= .int .i64 1) rfl ⟨by rw [hL];simp,by decide,by decide⟩) (fh w5 R 2 _);have z2:=HG.out.1.1.free 2;have d2:w5.cell? ⟨R,2,none⟩=some (.int .i64 0):=HG.out.1.1.cell 2;clear hf MJ HC QL hL HG
   go_upto_region 6 with fail
   generalize w5.setCell ⟨R,2,none⟩ (.int .i64 1)=w6 at KS⊢;have HG:=V KS;clear KS z2 d2;obtain⟨Mc,-,Nb,MP,hoo2,hoo3⟩:=HG.out;obtain⟨⟨x0,x1,x2,x3⟩,g0,g1,g2,g3⟩:=Nb.four;have d2:(w6).cell? ⟨R,2,none⟩=some (.int .i64 (IR.err ⟨1,1⟩)):=Mc.1.cell 2;have Mn:=my (w6).drew X2 (.int .i64 0) (.int .i64 0) (.int .i64 0) (.slice none 0 0);have Qn:=(Mc.1.drew.keeps Mn (by omega)).cell 2;have HX:=V (Nb.drew.ry (.int .i64 0) (.int .i64 0) (.int .i64 0) (.slice none 0 0));have Om:=V Qn;have Lb:=V (((((Mc.2.2.1.drew).setCell (p:=⟨X2,0,none⟩) MP (.int .i64 0)).setCell (p:=⟨X2,1,none⟩) MP (.int .i64 0)).setCell (p:=⟨X2,2,none⟩) MP (.int .i64 0)).setCell (p:=⟨X2,3,none⟩) MP (.slice none 0 0));clear Mc Nb Mn Qn
   go_upto_region 7 with fail
   refine ef (fun w'=>w'.cell? ⟨R,2,none⟩=some (.int .i64 (IR.err ⟨1,1⟩))) (up 0 5 ((5,false)::(6,true)::(7,true)::[])) (by kernel_rfl) (by kernel_rfl) d2 ?_;iterate 5 (first | (apply sk rfl rfl;simp only [pt]) | (apply dV rfl rfl rfl;·(rintro w' t0;go_wp2;exact⟨rfl,rfl,rfl⟩)))
   refine ed rfl rfl ?_;go_wp2_with fail;refine⟨Om.out,?_⟩;iterate 2 (first | (apply sk rfl rfl;simp only [pt]) | (apply dV rfl rfl rfl;·(rintro w' t0;go_wp2;exact⟨rfl,rfl,rfl⟩)))
   refine eL ?_;refine aD ?_;go_wp2_with fail;refine aM (lI rfl _ _ rfl HX.out.BS) rfl ?_;exact⟨Lb.out, .inr ⟨_,HN.out,QT.out,HG.out.1.2.2.2.2.2,rfl⟩⟩
  have HF:=V hf;have HL:=V hL;have HF9:=V QL;have Ma:((f:Int)==0)=false:=dS (by omega);clear hf MJ HC hL QL;obtain⟨Mc,hb6x,Nb,-,hoo2,hoo3⟩:=HG.out;obtain⟨⟨e0,e1,e2,e3⟩,-,y1,y2,y3⟩:=hb6x.four;have d1:(w5).cell? ⟨R,1,none⟩=some (.int .i64 (IR.pos ⟨1,0⟩)):=Mc.1.cell 1;have d2:(w5).cell? ⟨R,2,none⟩=some (.int .i64 (IR.err ⟨1,0⟩)):=Mc.1.cell 2;have z2:=Mc.1.free 2;clear Mc hb6x Nb
  go_upto_region 9 with fail
  rename_i K1 h1 K2 h2;have HK:Hid (∀a' w',tK w X2 R X6 a cap L c0.toNat a' w' ->K1 a' w'):=V (by
   clear h2 Ma d1 d2 z2 e0 e1 e2 e3 y1 y2 y3;rintro a' w7 h;unfold tK at h;obtain⟨s,x,u,Kw,hg,⟨hu,hfu⟩,hget⟩:=h;dsimp only [fr,gs]at Kw;generalize slot a'=g at Kw;subst Kw;apply h1;clear h1;have KF:=II L c0.toNat ⟨1,0⟩ Nw;rw [hget]at KF;obtain⟨xo,xa,xb,xl⟩:=x;simp only at hu hg KF;have HGT:=V hget;have LH:=V KF;have HU:=V hu;have HFU:=V hfu;have HG:=V hg;have OT:=V (show fJ c0.toNat≠0 by rw [HF.out];exact hz);have hn:∀s':IR,s'=s ->s'.err≠0 ->gu L=none:=fun s' e h=>by rw [HL.out];exact get_none OT.out (by rw [<- HL.out,HGT.out]) (by rw [<- e];exact h)
   have NI:s.err=0 ->gu L=some (⟨xo,xa,xb,xl⟩,L.drop s.pos):=fun h=>by rw [HL.out];exact get_some OT.out (by rw [<- HL.out,HGT.out]) h
   have HNN:=V hn;have HSM:=V NI;clear KF hget hu hfu hg hn NI;by_cases q:s.err=0;rotate_left
   ·have f1:=ff q
    have HN:=V (HNN.out s rfl q);have QT:=V q;clear q;obtain⟨Mc,-,Nb,MP,hoo2,hoo3⟩:=HG.out;obtain⟨⟨x0,x1,x2,x3⟩,g0,g1,g2,g3⟩:=Nb.four;have d2:(w7).cell? ⟨R,2,none⟩=some (.int .i64 (IR.err s)):=Mc.1.cell 2;have Mn:=my (w7).drew X2 (.int .i64 0) (.int .i64 0) (.int .i64 0) (.slice none 0 0);have Qn:=(Mc.1.drew.keeps Mn (by omega)).cell 2;have HX:=V (Nb.drew.ry (.int .i64 0) (.int .i64 0) (.int .i64 0) (.slice none 0 0));have Om:=V Qn;have Lb:=V (((((Mc.2.2.1.drew).setCell (p:=⟨X2,0,none⟩) MP (.int .i64 0)).setCell (p:=⟨X2,1,none⟩) MP (.int .i64 0)).setCell (p:=⟨X2,2,none⟩) MP (.int .i64 0)).setCell (p:=⟨X2,3,none⟩) MP (.slice none 0 0));clear Mc Nb Mn Qn
    go_upto_region 32 with fail
    refine ef (fun w'=>w'.cell? ⟨R,2,none⟩=some (.int .i64 (IR.err s))) (up 0 5 ((5,false)::(6,true)::(7,true)::[])) (by kernel_rfl) (by kernel_rfl) d2 ?_;iterate 5 (first | (apply sk rfl rfl;simp only [pt]) | (apply dV rfl rfl rfl;·(rintro w' t0;go_wp2;exact⟨rfl,rfl,rfl⟩)))
    refine ed rfl rfl ?_;go_wp2_with fail;refine⟨Om.out,?_⟩;iterate 2 (first | (apply sk rfl rfl;simp only [pt]) | (apply dV rfl rfl rfl;·(rintro w' t0;go_wp2;exact⟨rfl,rfl,rfl⟩)))
    refine eL ?_;refine aD ?_;go_wp2_with fail;refine aM (lI rfl _ _ rfl HX.out.BS) rfl ?_;exact⟨Lb.out, .inr ⟨_,HN.out,QT.out,HG.out.1.2.2.2.2.2,rfl⟩⟩
   ·have HI:=V (HSM.out q)
    have d2:w7.cell? ⟨R,2,none⟩=some (.int .i64 0):=by rw [<- q];exact HG.out.1.1.cell 2
    obtain⟨au,KD,rfl,-,-,-⟩:=id HU.out;clear q HNN HSM;obtain⟨Mc,hb6x,Nb,MP,hoo2,hoo3⟩:=HG.out;obtain⟨⟨x0,x1,x2,x3⟩,g0,g1,g2,g3⟩:=Nb.four;have d1:w7.cell? ⟨R,1,none⟩=some (.int .i64 s.pos):=Mc.1.cell 1;obtain⟨⟨l0,l1,l2,l3⟩,-⟩:=hb6x.four;have Mn:=my w7.drew X2 (.int .i64 xo) (.int .i64 xa) (.int .i64 xb) (.slice au xl.length KD);have HD1:=V ((Mc.1.drew.keeps Mn (by omega)).cell 1);have HL6:=V (hb6x.drew.keeps Mn (by omega)).four.1;have HX:=V (Nb.drew.ry (.int .i64 xo) (.int .i64 xa) (.int .i64 xb) (.slice au xl.length KD));have Lb:=V (((((Mc.2.2.1.drew).setCell (p:=⟨X2,0,none⟩) MP (.int .i64 xo)).setCell (p:=⟨X2,1,none⟩) MP (.int .i64 xa)).setCell (p:=⟨X2,2,none⟩) MP (.int .i64 xb)).setCell (p:=⟨X2,3,none⟩) MP (.slice au xl.length KD));have hu9:=HU.out.keeps Mn.AF (fun b n c e h=>by have:=(HFU.out b n c e).1;have h':b.block=X2:=h;omega);have QL:Bz w.heap.size ((((w7.drew.setCell ⟨X2,0,none⟩ (.int .i64 xo)).setCell ⟨X2,1,none⟩ (.int .i64 xa)).setCell ⟨X2,2,none⟩ (.int .i64 xb)).setCell ⟨X2,3,none⟩ (.slice au xl.length KD)) (.slice au xl.length KD):=fun b n c e=>by
     obtain⟨k1,k2⟩:=HFU.out b n c e;exact⟨by omega,by simpa using k2⟩
    have HU9:=V hu9;have HF9':=V QL;have hpl:s.pos <=L.length:=Mc.2.2.2.2.1;have HPL:=V hpl;clear Mc hb6x Nb Mn hu9 QL hpl
    go_upto_region 33 with fail
    refine ef (fun w'=>w'.cell? ⟨R,1,none⟩=some (.int .i64 s.pos)/\w'.cell? ⟨X6,0,none⟩=some (.int .i64 xo)/\w'.cell? ⟨X6,1,none⟩=some (.int .i64 xa)/\w'.cell? ⟨X6,2,none⟩=some (.int .i64 xb)/\w'.cell? ⟨X6,3,none⟩=some (.slice au xl.length KD)) (up 0 5 ((5,false)::(6,true)::(7,true)::[])) (by kernel_rfl) (by kernel_rfl) ⟨d1,l0,l1,l2,l3⟩ ?_;iterate 5 (first | (apply sk rfl rfl;simp only [pt]) | (apply dV rfl rfl rfl;·(rintro w' ⟨t0,t1,t2,t3,t4⟩;go_wp2;exact⟨rfl,rfl,rfl⟩)))
    refine ed rfl rfl ?_;go_wp2_with fail;refine⟨⟨HD1.out,HL6.out⟩,?_⟩;iterate 2 (first | (apply sk rfl rfl;simp only [pt]) | (apply dV rfl rfl rfl;·(rintro w' ⟨t0,t1,t2,t3,t4⟩;go_wp2;exact⟨rfl,rfl,rfl⟩)))
    refine eL ?_;refine aD ?_;go_wp2_with fail;refine aM (lI rfl _ _ rfl HX.out.BS) rfl ?_;refine⟨Lb.out, .inl ⟨_,_,_,HI.out,?_,⟨HU9.out,LH.out⟩,HF9'.out⟩⟩;have e:((L.length - (L.drop s.pos).length:Nat):Int)=s.pos:=by
     rw [bq];have:=HPL.out;omega
    rw [e];rfl
   )
  clear h1 d1 d2 z2;have LK:=HK;clear HK;rcases(show f=1\/f=2\/f=3\/f=4\/f=5\/f=6\/f=7\/f=8\/f=9 by have:=HF9.out;omega)with rfl | rfl | rfl | rfl | rfl | rfl | rfl | rfl | rfl
  ·clear hz Ma e1 e2 e3 y1 y2 y3 Lk M8 Nw
   have HI:=V (show IR.get L c0.toNat ⟨1,0⟩=(⟨c0.toNat,0,0,[]⟩,⟨1,0⟩)by unfold IR.get;rw [HF.out];rfl);go_wp2_with fail;refine LK.out _ _ ?_;unfold tK;exact⟨_,_,_,rfl,HG.out,⟨eg.nil _,fun _ _ _ h=>by cases h⟩,HI.out⟩
  ·skip
   clear hz Ma Lk M8 Nw;have HI:=V (show IR.get L c0.toNat ⟨1,0⟩=(⟨c0.toNat,(IR.kind L ⟨1,0⟩).1,0,[]⟩,(IR.kind L ⟨1,0⟩).2)by unfold IR.get;rw [HF.out];rfl);go_wp2_with fail;refine(A7 w w5 R a cap L ⟨1,0⟩ HG.out.1).mono ?_;rintro e w8 ⟨rfl,hr,hk⟩;have NJ:=V (HG.out.read hr hk);obtain⟨⟨e0',e1',e2',e3'⟩,-,y1',y2',y3'⟩:=NJ.out.2.1.four;clear hr hk e0 e1 e2 e3 y1 y2 y3;go_wp2_with fail;refine LK.out _ _ ?_;unfold tK;exact⟨_,⟨_,_,_,_⟩,_,rfl,NJ.out.AV _,⟨eg.nil _,fun _ _ _ h=>by cases h⟩,HI.out⟩
  ·skip
   clear hz Ma Lk M8 Nw;have HI:=V (show IR.get L c0.toNat ⟨1,0⟩=(⟨c0.toNat,(IR.jW L 1000 ⟨1,0⟩).1,0,[]⟩,(IR.jW L 1000 ⟨1,0⟩).2)by unfold IR.get;rw [HF.out];rfl);go_wp2_with fail;refine(lB w w5 R a cap L ⟨1,0⟩ HG.out.1 1000).mono ?_;rintro e w8 ⟨rfl,hr,hk⟩;have NJ:=V (HG.out.read hr hk);obtain⟨⟨e0',e1',e2',e3'⟩,-,y1',y2',y3'⟩:=NJ.out.2.1.four;clear hr hk e0 e1 e2 e3 y1 y2 y3;go_wp2_with fail;refine LK.out _ _ ?_;unfold tK;exact⟨_,⟨_,_,_,_⟩,_,rfl,NJ.out.AV _,⟨eg.nil _,fun _ _ _ h=>by cases h⟩,HI.out⟩
  ·skip
   clear hz Ma Lk M8 Nw;obtain⟨n,hn⟩:∃n,(IR.jW L 50 ⟨1,0⟩).1=n:=⟨_,rfl⟩;obtain⟨s1,LZ⟩:∃s1,(IR.jW L 50 ⟨1,0⟩).2=s1:=⟨_,rfl⟩;have hn50:n <=50:=by rw [<- hn];exact IR.Af L 50 _
   have HI:=V (show IR.get L c0.toNat ⟨1,0⟩=(⟨c0.toNat,((s1.mc L n).2.jW L 1000).1,0,(s1.mc L n).1.map fun x:Nat=>(x:Int)⟩,((s1.mc L n).2.jW L 1000).2)by unfold IR.get;rw [HF.out];rw [<- hn, <- LZ];rfl);have HN:=V hn;have MJ:=V LZ;clear hn LZ;go_wp2_with fail;refine(lB w w5 R a cap L ⟨1,0⟩ HG.out.1 50).mono ?_;rintro e w8 ⟨rfl,hr,hk⟩;have hg8:=HG.out.read hr hk;rw [HN.out];rw [MJ.out]at hg8;have NJ:=V hg8;clear hr hk hg8 e0 e1 e2 e3 y1 y2 y3;go_wp2_with fail;refine eB (fun a' w'=>∃(k:Nat) (acc:List Nat) (s:IR) (u:Value),a'=fr (gs a' 0 2 (.pointer (some ⟨X2,0,none⟩):: .int .i64 0:: .int .i64 0:: .pointer (some ⟨R,0,none⟩):: .pointer (some ⟨X6,0,none⟩)::gs a' 7 46 (.int .i64 n:: .int .i64 k::gs a' 55 49 [])))/\Kh w w' X2 R X6 a cap L c0.toNat s1 n k acc s u) (fun a' _=>(n - (intOf (a'.tmps.getD 54 undef)).toNat)) ?_ ?_
   ·exact⟨0,[],s1,_,rfl,by omega,rfl,rfl,rfl,NJ.out,dT.nil _ _⟩
   ·skip
    rintro RR a' w1 ⟨k,acc,s,u,Kw,hJ⟩ HR;dsimp only [fr,gs]at Kw;generalize slot a'=f at Kw;subst Kw;obtain⟨hk,rfl,Qk,hl2,hg,ho⟩:=hJ;obtain⟨au,KD,hu,_,My,-⟩:=ho.fy fw;rw [bN]at hu;subst hu;unfold maxLen at My;have HGK:=V hg;have HO:=V ho;have Qc:=V Qk;have P3:=V hl2;clear Qk hl2 hg ho;by_cases q:acc.length < n
    ·have c3:w1.cell? ⟨X6,3,none⟩=some (.slice au acc.length KD):=HGK.out.2.1.cell 3
     go_wp2_with fail;refine eO (fun w'=>w'.cell? ⟨X6,3,none⟩=some (.slice au acc.length KD)) 7
      (up 0 3 ((3,false)::(4,false)::(5,false)::(6,true)::[])) (by kernel_rfl) (by kernel_rfl) c3 ?_
     clear c3;iterate 3 (first | (apply sk rfl rfl;simp only [pt]) | (apply dV rfl rfl rfl;·(rintro w' t0;go_wp2;exact⟨rfl,rfl,rfl⟩)))
     refine ed rfl rfl ?_;go_wp2_with fail;refine(lB w w1.drew R a cap L s HGK.out.1.drew 1000).mono ?_;rintro e w8 ⟨rfl,hr,M0⟩;obtain⟨m,hm⟩:∃m,(IR.jW L 1000 s).1=m:=⟨_,rfl⟩;obtain⟨s2,KG⟩:∃s2,(IR.jW L 1000 s).2=s2:=⟨_,rfl⟩;rw [hm];rw [KG]at hr;have hm1:m <=1000:=by rw [<- hm];exact IR.Af L 1000 s
     have HM:=V hm;have K4:=V KG;have hg8:=HGK.out.drew.read hr M0;have hk18:=M0.AF;have ho8:=HO.out.keeps hk18 (fun i hi h=>by have:=(et HO.out hi).1;have h':i=R:=h;omega);have NJ:=V hg8;clear hm KG hr M0 hk18 hg8;go_wp2_with fail;refine⟨NJ.out.2.1.cell 3,?_⟩;refine ed rfl rfl ?_;go_wp2_with fail;refine⟨(NJ.out.2.1.alloc _).cell 3,?_⟩;refine ed rfl rfl ?_;refine eT w8 rfl _ _ 25 rfl _ 8 (by kernel_rfl) (show(prog.info? 3).map (fun i=>(i.zero,i.size,i.bytes))=some (some (.int .i64 0),1,8)by kernel_rfl) rfl (by decide) (by decide) (X6+1) (.slice au acc.length KD) (acc.map fun x:Nat=>(x:Int)) rfl ho8 (m:Int) _ rfl rfl (by simp [fb,Value.oneCell']) rfl (by rw [bN];omega) (by have:=NJ.out.2.1.lt;omega) ?_;intro v10 w10 OR O9 hs10;have Ku:∀i,eA (.slice au acc.length KD) i ->X6+1 <=i:=fun i hi=>(et ho8 hi).1;have hg10:=NJ.out.keeps O9 (fun i hi=>by have:=Ku i hi;omega);generalize hA:acc.map (fun x:Nat=>(x:Int))++[(m:Int)]=NB at OR;have HA:=V hA;obtain⟨a9,cap9,rfl,-,-⟩:=OR.fy fw;have c3:w10.cell? ⟨X6,3,none⟩=some (.slice au acc.length KD):=hg10.2.1.cell 3;have y3:=hg10.2.1.free 3;have HG11:=V (hg10.JW (.slice a9 NB.length cap9));have HK11:=V (fh w10 X6 3 (.slice a9 NB.length cap9));have HO10:=V OR;clear O9 hs10 Ku hg10 ho8 NJ OR hA;go_wp2_with fail;refine⟨c3,?_⟩;iterate 1 (first | (apply sk rfl rfl;simp only [pt]) | (apply dV rfl rfl rfl;·(rintro w' t0;go_wp2;exact⟨rfl,rfl,rfl⟩)))
     refine fG rfl rfl ?_;go_wp2_with fail;refine⟨trivial,?_⟩;refine aD ?_;go_wp2_with fail;refine HR.out _ _ ⟨acc.length+1,acc++[m],s2, .slice a9 NB.length cap9,rfl,?_⟩ ?_
     ·have e1:n - acc.length=(n - (acc.length+1))+1:=by omega
      refine⟨by omega,by rw [ah];rfl,?_,?_,HG11.out,?_⟩
      ·rw [Qc.out,e1,IR.mc,HM.out,K4.out,aP]
       rfl
      ·rw [P3.out,e1,IR.mc,K4.out]
      ·rw [cn,List.map_singleton,HA.out]
       exact HO10.out.keeps HK11.out (fun i hi h=>by have:=(et HO10.out hi).1;have h':i=X6:=h;omega)
     ·simp [intOf]
      omega
    ·obtain rfl:n=acc.length:=by omega
     have hL:(s1.mc L acc.length)=(acc,s):=by
      rw [Prod.ext_iff];refine⟨?_,?_⟩
      ·rw [Qc.out,Nat.sub_self,IR.mc]
       simp
      ·rw [P3.out,Nat.sub_self,IR.mc]
     replace HI:=V (show IR.get L c0.toNat ⟨1,0⟩=(⟨c0.toNat,(s.jW L 1000).1,0,acc.map fun x:Nat=>(x:Int)⟩,(s.jW L 1000).2)by rw [HI.out,hL]);clear hL Qc P3 hk;go_wp2_with fail;refine(lB w w1 R a cap L s HGK.out.1 1000).mono ?_;rintro e w8 ⟨rfl,hr,M0⟩;have NJ:=V (HGK.out.read hr M0);have ho8:=HO.out.keeps M0 (fun i hi h=>by have:=(et HO.out hi).1;have h':i=R:=h;omega);obtain⟨⟨e0,e1,e2,e3⟩,-,y1,y2,y3⟩:=NJ.out.2.1.four;have ho9:=ho8.keeps (fh w8 X6 1 (.int .i64 (s.jW L 1000).1)) (fun i hi h=>by have:=(et ho8 hi).1;have h':i=X6:=h;omega);have HO9:=V ho9;clear hr M0 ho8 ho9;go_wp2_with fail;refine LK.out _ _ ?_;unfold tK;refine⟨_,⟨_,_,_,_⟩,_,rfl,NJ.out.AV _,⟨HO9.out.fy fw,fun b n c e=>?_⟩,HI.out⟩;have:=HO9.out.block b n c e;exact⟨by omega,this.2⟩
  ·skip
   clear hz Ma Lk M8 Nw;have HI:=V (show IR.get L c0.toNat ⟨1,0⟩=(⟨c0.toNat,(IR.jW L 1000 ⟨1,0⟩).1,0,[]⟩,(IR.jW L 1000 ⟨1,0⟩).2.zero L)by unfold IR.get;rw [HF.out];rfl);go_wp2_with fail;refine(lB w w5 R a cap L ⟨1,0⟩ HG.out.1 1000).mono ?_;rintro e w8 ⟨rfl,hr,hk⟩;have NJ:=V (HG.out.read hr hk);obtain⟨⟨e0',e1',e2',e3'⟩,-,y1',y2',y3'⟩:=NJ.out.2.1.four;clear hr hk e0 e1 e2 e3 y1 y2 y3;have hg9:=NJ.out.AV (IR.jW L 1000 ⟨1,0⟩).1;go_wp2_with fail;generalize(w8.setCell ⟨X6,1,none⟩ (.int .i64 (IR.jW L 1000 ⟨1,0⟩).1))=w9 at hg9⊢;refine(uk w w9 R a cap L _ hg9.1).mono ?_;rintro e w10 ⟨rfl,hr,hk⟩;have HG10:=V (hg9.read hr hk);clear hr hk hg9 e0' e1' e2' e3' y1' y2' y3';go_wp2_with fail;refine LK.out _ _ ?_;unfold tK;exact⟨_,⟨_,_,_,_⟩,_,rfl,HG10.out,⟨eg.nil _,fun _ _ _ h=>by cases h⟩,HI.out⟩
  ·skip
   clear hz Ma Lk M8 Nw;have HI:=V (show IR.get L c0.toNat ⟨1,0⟩=(⟨c0.toNat,(IR.jW L 3 ⟨1,0⟩).1,((IR.jW L 3 ⟨1,0⟩).2.jW L 4294967295).1,[]⟩,((IR.jW L 3 ⟨1,0⟩).2.jW L 4294967295).2)by unfold IR.get;rw [HF.out];rfl);go_wp2_with fail;refine(lB w w5 R a cap L ⟨1,0⟩ HG.out.1 3).mono ?_;rintro e w8 ⟨rfl,hr,hk⟩;have NJ:=V (HG.out.read hr hk);obtain⟨⟨e0',e1',e2',e3'⟩,-,y1',y2',y3'⟩:=NJ.out.2.1.four;clear hr hk e0 e1 e2 e3 y1 y2 y3;have hg9:=NJ.out.AV (IR.jW L 3 ⟨1,0⟩).1;go_wp2_with fail;generalize(w8.setCell ⟨X6,1,none⟩ (.int .i64 (IR.jW L 3 ⟨1,0⟩).1))=w9 at hg9⊢;refine(lB w w9 R a cap L _ hg9.1 4294967295).mono ?_;rintro e w10 ⟨rfl,hr,hk⟩;have HG10:=V (hg9.read hr hk);obtain⟨⟨e0,e1,e2,e3⟩,-,y1,y2,y3⟩:=HG10.out.2.1.four;clear hr hk hg9 e0' e1' e2' e3' y1' y2' y3';go_wp2_with fail;refine LK.out _ _ ?_;unfold tK;exact⟨_,⟨_,_,_,_⟩,_,rfl,HG10.out.Ki _,⟨eg.nil _,fun _ _ _ h=>by cases h⟩,HI.out⟩
  ·skip
   clear hz Ma Lk M8 Nw;have HI:=V (show IR.get L c0.toNat ⟨1,0⟩=(⟨c0.toNat,0,0,[]⟩,IR.zero L ⟨1,0⟩)by unfold IR.get;rw [HF.out];rfl);go_wp2_with fail;refine(uk w w5 R a cap L ⟨1,0⟩ HG.out.1).mono ?_;rintro e w8 ⟨rfl,hr,hk⟩;have NJ:=V (HG.out.read hr hk);clear hr hk e0 e1 e2 e3 y1 y2 y3;go_wp2_with fail;refine LK.out _ _ ?_;unfold tK;exact⟨_,⟨_,_,_,_⟩,_,rfl,NJ.out,⟨eg.nil _,fun _ _ _ h=>by cases h⟩,HI.out⟩
  ·skip
   clear hz Ma Lk M8 Nw;have HI:=V (show IR.get L c0.toNat ⟨1,0⟩=(⟨c0.toNat,(IR.pZ L 32 ⟨1,0⟩).1,0,[]⟩,(IR.pZ L 32 ⟨1,0⟩).2)by unfold IR.get;rw [HF.out];rfl);go_wp2_with fail;refine(wi w w5 R a cap L ⟨1,0⟩ HG.out.1 rfl 32 (by decide) (by decide)).mono ?_;rintro e w8 ⟨rfl,hr,hk⟩;have NJ:=V (HG.out.read hr hk);obtain⟨⟨e0',e1',e2',e3'⟩,-,y1',y2',y3'⟩:=NJ.out.2.1.four;clear hr hk e0 e1 e2 e3 y1 y2 y3;go_wp2_with fail;refine LK.out _ _ ?_;unfold tK;exact⟨_,⟨_,_,_,_⟩,_,rfl,NJ.out.AV _,⟨eg.nil _,fun _ _ _ h=>by cases h⟩,HI.out⟩
  ·skip
   clear hz Ma Lk M8 Nw;have HI:=V (show IR.get L c0.toNat ⟨1,0⟩=(⟨c0.toNat,(IR.pZ L 64 ⟨1,0⟩).1,0,[]⟩,(IR.pZ L 64 ⟨1,0⟩).2)by unfold IR.get;rw [HF.out];rfl);go_wp2_with fail;refine(wi w w5 R a cap L ⟨1,0⟩ HG.out.1 rfl 64 (by decide) (by decide)).mono ?_;rintro e w8 ⟨rfl,hr,hk⟩;have NJ:=V (HG.out.read hr hk);obtain⟨⟨e0',e1',e2',e3'⟩,-,y1',y2',y3'⟩:=NJ.out.2.1.four;clear hr hk e0 e1 e2 e3 y1 y2 y3;go_wp2_with fail;refine LK.out _ _ ?_;unfold tK;exact⟨_,⟨_,_,_,_⟩,_,rfl,NJ.out.AV _,⟨eg.nil _,fun _ _ _ h=>by cases h⟩,HI.out⟩
end
section
section
variable {w:World} {X:Nat} {t:TypeId}
theorem eG.mq {k n:Int} (h:eG w X #[.int .i64 k, .int .i64 n] t):(loadVar 42 ⟨X,0,none⟩).run prog w= .ok (.agg #[.int .i64 k, .int .i64 n]) w:=by
 have hs:(prog.underlying 42).map (fun d=>match d with | .struct _ | .array _ _=>true | _=>false)=some true:=by kernel_rfl
 obtain⟨d,h1,h2⟩:=bz.1 hs;exact bY w X t 42 _ _ d h h1 (by cases d <;>first | rfl | (exfalso;simp at h2)) (by kernel_rfl)
theorem eG.pA {b:Bool} {k n:Int} (h:eG w X #[.bool b, .int .i64 k, .int .i64 n] t):(loadVar 55 ⟨X,0,none⟩).run prog w= .ok (.agg #[.bool b, .int .i64 k, .int .i64 n]) w:=by
 have hs:(prog.underlying 55).map (fun d=>match d with | .struct _ | .array _ _=>true | _=>false)=some true:=by kernel_rfl
 obtain⟨d,h1,h2⟩:=bz.1 hs;exact bY w X t 55 _ _ d h h1 (by cases d <;>first | rfl | (exfalso;simp at h2)) (by kernel_rfl)
theorem eG.kQ {u v:Value} (h:eG w X #[u,v] t):(loadVar 109 ⟨X,0,none⟩).run prog w= .ok (.agg #[u,v]) w:=by
 have hs:(prog.underlying 109).map (fun d=>match d with | .struct _ | .array _ _=>true | _=>false)=some true:=by kernel_rfl
 obtain⟨d,h1,h2⟩:=bz.1 hs;exact bY w X t 109 _ _ d h h1 (by cases d <;>first | rfl | (exfalso;simp at h2)) (by kernel_rfl)
theorem eG.G4 {a b:ByteArray} {n:Int} (h:eG w X #[.string a, .string b, .int .i64 n] t):(loadVar 118 ⟨X,0,none⟩).run prog w= .ok (.agg #[.string a, .string b, .int .i64 n]) w:=by
 have hs:(prog.underlying 118).map (fun d=>match d with | .struct _ | .array _ _=>true | _=>false)=some true:=by kernel_rfl
 obtain⟨d,h1,h2⟩:=bz.1 hs;exact bY w X t 118 _ _ d h h1 (by cases d <;>first | rfl | (exfalso;simp at h2)) (by kernel_rfl)
theorem eG.Ea {b:Bool} {k n:Int} (h:eG w X #[.bool b, .int .i64 k, .int .i64 n] t):(loadVar 120 ⟨X,0,none⟩).run prog w= .ok (.agg #[.bool b, .int .i64 k, .int .i64 n]) w:=by
 have hs:(prog.underlying 120).map (fun d=>match d with | .struct _ | .array _ _=>true | _=>false)=some true:=by kernel_rfl
 obtain⟨d,h1,h2⟩:=bz.1 hs;exact bY w X t 120 _ _ d h h1 (by cases d <;>first | rfl | (exfalso;simp at h2)) (by kernel_rfl)
theorem eG.Gx {a:ByteArray} {n:Int} (h:eG w X #[.string a, .int .i64 n] t):(loadVar 111 ⟨X,0,none⟩).run prog w= .ok (.agg #[.string a, .int .i64 n]) w:=by
 have hs:(prog.underlying 111).map (fun d=>match d with | .struct _ | .array _ _=>true | _=>false)=some true:=by kernel_rfl
 obtain⟨d,h1,h2⟩:=bz.1 hs;exact bY w X t 111 _ _ d h h1 (by cases d <;>first | rfl | (exfalso;simp at h2)) (by kernel_rfl)
theorem eG.zb {n:Int} {v:Value} (h:eG w X #[.int .i64 n,v] t):(loadVar 95 ⟨X,0,none⟩).run prog w= .ok (.agg #[.int .i64 n,v]) w:=by
 have hs:(prog.underlying 95).map (fun d=>match d with | .struct _ | .array _ _=>true | _=>false)=some true:=by kernel_rfl
 obtain⟨d,h1,h2⟩:=bz.1 hs;exact bY w X t 95 _ _ d h h1 (by cases d <;>first | rfl | (exfalso;simp at h2)) (by kernel_rfl)
theorem eG.te {u v:Value} (h:eG w X #[u,v] t):(loadVar 69 ⟨X,0,none⟩).run prog w= .ok (.agg #[u,v]) w:=by
 have hs:(prog.underlying 69).map (fun d=>match d with | .struct _ | .array _ _=>true | _=>false)=some true:=by kernel_rfl
 obtain⟨d,h1,h2⟩:=bz.1 hs;exact bY w X t 69 _ _ d h h1 (by cases d <;>first | rfl | (exfalso;simp at h2)) (by kernel_rfl)
theorem eG.Fo {n:Int} {v:Value} (h:eG w X #[.int .i64 n,v] t):(loadVar 99 ⟨X,0,none⟩).run prog w= .ok (.agg #[.int .i64 n,v]) w:=by
 have hs:(prog.underlying 99).map (fun d=>match d with | .struct _ | .array _ _=>true | _=>false)=some true:=by kernel_rfl
 obtain⟨d,h1,h2⟩:=bz.1 hs;exact bY w X t 99 _ _ d h h1 (by cases d <;>first | rfl | (exfalso;simp at h2)) (by kernel_rfl)
theorem eG.two {x0 x1:Value} (h:eG w X #[x0,x1] t):w.cell? ⟨X,0,none⟩=some x0/\w.cell? ⟨X,1,none⟩=some x1/\w.frozen? ⟨X,0,none⟩=false/\w.frozen? ⟨X,1,none⟩=false:=⟨h.cell 0,h.cell 1,h.free 0,h.free 1⟩
theorem eG.F8 {x0 x1 x2:Value} (h:eG w X #[x0,x1,x2] t):w.cell? ⟨X,0,none⟩=some x0/\w.cell? ⟨X,1,none⟩=some x1/\w.cell? ⟨X,2,none⟩=some x2/\w.frozen? ⟨X,0,none⟩=false/\w.frozen? ⟨X,1,none⟩=false/\w.frozen? ⟨X,2,none⟩=false:=⟨h.cell 0,h.cell 1,h.cell 2,h.free 0,h.free 1,h.free 2⟩
theorem eG.mP {x0 x1:Value} (h:eG w X #[x0,x1] t) (y0 y1:Value):eG ((w.setCell ⟨X,0,none⟩ y0).setCell ⟨X,1,none⟩ y1) X #[y0,y1] t:=by simpa using (h.set 0 y0).set 1 y1
theorem eG.ui {x0 x1 x2:Value} (h:eG w X #[x0,x1,x2] t) (y0 y1 y2:Value):eG (((w.setCell ⟨X,0,none⟩ y0).setCell ⟨X,1,none⟩ y1).setCell ⟨X,2,none⟩ y2) X #[y0,y1,y2] t:=by simpa using ((h.set 0 y0).set 1 y1).set 2 y2
theorem eu (w:World) (X i:Nat) (v:Value):dU (fun k=>k=X) w (w.setCell ⟨X,i,none⟩ v):=⟨rfl,rfl,rfl,by simp,fun k _ hk=>cL w ⟨X,i,none⟩ v k hk⟩
theorem fF (w:World) (X:Nat) (y0 y1:Value):dU (fun k=>k=X) w ((w.setCell ⟨X,0,none⟩ y0).setCell ⟨X,1,none⟩ y1):=(eu w X 0 y0).trans (eu _ X 1 y1) (fun _ h=> .inl h)
theorem ky (w:World) (X:Nat) (y0 y1 y2:Value):dU (fun k=>k=X) w (((w.setCell ⟨X,0,none⟩ y0).setCell ⟨X,1,none⟩ y1).setCell ⟨X,2,none⟩ y2):=(fF w X y0 y1).trans (eu _ X 2 y2) (fun _ h=> .inl h)
theorem dU.jc {w w' w2:World} {R:Nat} (h:dU (fun k=>k=R) w w') {Y:Nat} (hk:dU (fun k=>k=Y) w' w2) (hY:w.heap.size <=Y):dU (fun k=>k=R) w w2:=h.trans hk (fun i hi=> .inr (by subst hi;exact hY))
end
end
theorem wk {x y:fP} (h:y∈oneOf x):y=x/\x.has=true:=by
 unfold oneOf at h;split at h
 ·rename_i hh
  exact⟨aV.1 h,hh⟩
 ·simp at h
theorem oY {least fi:Int} {x:fP} (h:x.may least fi):jP (oneOf x)=x:=by
 obtain⟨has,mn,mx⟩:=x;unfold oneOf;cases has with
 | true=>rfl
 | false=>
  unfold fP.may at h;rw [aC (by simp)]at h;obtain⟨h1,h2⟩:=h;simp only at h1 h2;rw [h1,h2];rfl
theorem vW {least fi:Int} {x:fP} (h:x.may least fi) (hn:oneOf x=[]):x=⟨false,0,0⟩:=by
 rw [<- oY h,hn];rfl
theorem qS {least fi:Int} {x y:fP} (hm:x.may least fi) (hl:least <=100000) (hmo:fi <=100000) (hy:y∈oneOf x) (r:List UInt8):gg (gE y++r)=some (y,r):=by
 obtain⟨rfl,hh⟩:=wk hy;exact zC hh hm hl hmo r
theorem yt {least fi:Int} {x y:fP} (hm:x.may least fi) (hl:least <=100000) (hmo:fi <=100000) (hy:y∈oneOf x) (r:List UInt8):kM (jj y++r)=some (y,r):=by
 unfold kM jj;rw [bI];simp only [eZ,aw];exact qS hm hl hmo hy r
theorem yf {m:ez} (hm:m.Gz) (ho:m.ok) (hb:∀x∈m.ej,∀y∈x.body,y.ok) (hl:(fB m).length <=8000):mw (fB m)=some m:=by
 obtain⟨h1,h2,h3,h4,h5,h6,h7,h8,h9,h10⟩:=hm;have hlen:(ph m).length <=7992:=by
  simp only [fB,ah]at hl;have:fA.length=8:=rfl;omega
 unfold mw;rw [aC (by omega)];have e0:(fB m).take 8=fA:=by
  unfold fB;exact cO (l₁:=fA)
 have e1:(fB m).drop 8=ph m:=by
  unfold fB;exact c9 (l₁:=fA)
 rw [aJ e0,e1];have hf:(ph m).length < (fB m).length+1:=by
  simp only [fB,ah];omega
 generalize(fB m).length+1=f at hf;have hlen2:=hlen;simp only [ph,ah]at hlen2;have hstart:nQ f m0 (ph m)=nQ f (⟨[],[],[],⟨false,0,0⟩,⟨false,0,0⟩,[],[],[],[],[]⟩:ez) (ph m):=rfl;rw [hstart];clear hstart hlen;unfold ph at hf⊢;have v0:=jw 1 kI m.types (n:=7992) (by omega) (by omega);have l0:=lF kI m.types (fun x _=>by simp [kI]);obtain⟨f0,g0,k0⟩:=kj (no:=1) (put:=kI) (get:=oN) (l:=m.types) (m:=(⟨[],[],[],⟨false,0,0⟩,⟨false,0,0⟩,[],[],[],[],[]⟩:ez)) (m':=(⟨m.types,[],[],⟨false,0,0⟩,⟨false,0,0⟩,[],[],[],[],[]⟩:ez)) (fun x=>(⟨x,[],[],⟨false,0,0⟩,⟨false,0,0⟩,[],[],[],[],[]⟩:ez)) (fun b=>rfl) (fun h=>by rw [h]) (rfl) (fun x hx r=>CM (h1 x hx) r) (by omega) v0 _ _ hf;rw [k0];have v1:=jw 2 nA m.imports (n:=7992) (by omega) (by omega);have l1:=lF nA m.imports (fun x _=>by have:=(eF x.mod.data.toList.length).1;simp only [nA,oK,ah];omega);obtain⟨f1,g1,k1⟩:=kj (no:=2) (put:=nA) (get:=tH) (l:=m.imports) (m:=(⟨m.types,[],[],⟨false,0,0⟩,⟨false,0,0⟩,[],[],[],[],[]⟩:ez)) (m':=(⟨m.types,m.imports,[],⟨false,0,0⟩,⟨false,0,0⟩,[],[],[],[],[]⟩:ez)) (fun x=>(⟨m.types,x,[],⟨false,0,0⟩,⟨false,0,0⟩,[],[],[],[],[]⟩:ez)) (fun b=>rfl) (fun h=>by rw [h]) (rfl) (fun x hx r=>DP (h2 x hx) r) (by omega) v1 _ _ g0;rw [k1];have v2:=jw 3 rS m.funcs (n:=7992) (by omega) (by omega);have l2:=lF rS m.funcs (fun x _=>(eF x.toNat).1);obtain⟨f2,g2,k2⟩:=kj (no:=3) (put:=rS) (get:=uV) (l:=m.funcs) (m:=(⟨m.types,m.imports,[],⟨false,0,0⟩,⟨false,0,0⟩,[],[],[],[],[]⟩:ez)) (m':=(⟨m.types,m.imports,m.funcs,⟨false,0,0⟩,⟨false,0,0⟩,[],[],[],[],[]⟩:ez)) (fun x=>(⟨m.types,m.imports,x,⟨false,0,0⟩,⟨false,0,0⟩,[],[],[],[],[]⟩:ez)) (fun b=>rfl) (fun h=>by rw [h]) (rfl) (fun x hx r=>sO (h3 x hx) r) (by omega) v2 _ _ g1;rw [k2];have v3:=jw 4 jj (oneOf m.table) (n:=7992) (by omega) (by omega);have l3:=lF jj (oneOf m.table) (fun x _=>by simp [jj]);obtain⟨f3,g3,k3⟩:=kj (no:=4) (put:=jj) (get:=kM) (l:=(oneOf m.table)) (m:=(⟨m.types,m.imports,m.funcs,⟨false,0,0⟩,⟨false,0,0⟩,[],[],[],[],[]⟩:ez)) (m':=(⟨m.types,m.imports,m.funcs,m.table,⟨false,0,0⟩,[],[],[],[],[]⟩:ez)) (fun x=>(⟨m.types,m.imports,m.funcs,jP x,⟨false,0,0⟩,[],[],[],[],[]⟩:ez)) (fun b=>rfl) (fun h=>by rw [vW h4 h]) (by rw [oY h4]) (fun x hx r=>yt h4 (by decide) (by decide) hx r) (by omega) v3 _ _ g2;rw [k3];have v4:=jw 5 gE (oneOf m.mem) (n:=7992) (by omega) (by omega);have l4:=lF gE (oneOf m.mem) (fun x _=>by unfold gE;split <;>simp);obtain⟨f4,g4,k4⟩:=kj (no:=5) (put:=gE) (get:=gg) (l:=(oneOf m.mem)) (m:=(⟨m.types,m.imports,m.funcs,m.table,⟨false,0,0⟩,[],[],[],[],[]⟩:ez)) (m':=(⟨m.types,m.imports,m.funcs,m.table,m.mem,[],[],[],[],[]⟩:ez)) (fun x=>(⟨m.types,m.imports,m.funcs,m.table,jP x,[],[],[],[],[]⟩:ez)) (fun b=>rfl) (fun h=>by rw [vW h5 h]) (by rw [oY h5]) (fun x hx r=>qS h5 (by decide) (by decide) hx r) (by omega) v4 _ _ g3;rw [k4];have v5:=jw 6 kE m.globals (n:=7992) (by omega) (by omega);have l5:=lF kE m.globals (fun x _=>by simp [kE,ji]);obtain⟨f5,g5,k5⟩:=kj (no:=6) (put:=kE) (get:=o9) (l:=m.globals) (m:=(⟨m.types,m.imports,m.funcs,m.table,m.mem,[],[],[],[],[]⟩:ez)) (m':=(⟨m.types,m.imports,m.funcs,m.table,m.mem,m.globals,[],[],[],[]⟩:ez)) (fun x=>(⟨m.types,m.imports,m.funcs,m.table,m.mem,x,[],[],[],[]⟩:ez)) (fun b=>rfl) (fun h=>by rw [h]) (rfl) (fun x hx r=>Dh (h6 x hx) (ho.2.2.2.2.1 x hx) r) (by omega) v5 _ _ g4;rw [k5];have v6:=jw 7 nR m.ea (n:=7992) (by omega) (by omega);have l6:=lF nR m.ea (fun x _=>by have:=(eF x.name.data.toList.length).1;simp only [nR,oK,ah];omega);obtain⟨f6,g6,k6⟩:=kj (no:=7) (put:=nR) (get:=tG) (l:=m.ea) (m:=(⟨m.types,m.imports,m.funcs,m.table,m.mem,m.globals,[],[],[],[]⟩:ez)) (m':=(⟨m.types,m.imports,m.funcs,m.table,m.mem,m.globals,m.ea,[],[],[]⟩:ez)) (fun x=>(⟨m.types,m.imports,m.funcs,m.table,m.mem,m.globals,x,[],[],[]⟩:ez)) (fun b=>rfl) (fun h=>by rw [h]) (rfl) (fun x hx r=>F3 (h7 x hx) r) (by omega) v6 _ _ g5;rw [k6];have v7:=jw 9 kT m.elems (n:=7992) (by omega) (by omega);have l7:=lF kT m.elems (fun x _=>by simp [kT,nw]);obtain⟨f7,g7,k7⟩:=kj (no:=9) (put:=kT) (get:=pk) (l:=m.elems) (m:=(⟨m.types,m.imports,m.funcs,m.table,m.mem,m.globals,m.ea,[],[],[]⟩:ez)) (m':=(⟨m.types,m.imports,m.funcs,m.table,m.mem,m.globals,m.ea,m.elems,[],[]⟩:ez)) (fun x=>(⟨m.types,m.imports,m.funcs,m.table,m.mem,m.globals,m.ea,x,[],[]⟩:ez)) (fun b=>rfl) (fun h=>by rw [h]) (rfl) (fun x hx r=>C7 (h8 x hx) r) (by omega) v7 _ _ g6;rw [k7];have v8:=jw 10 ir m.ej (n:=7992) (by omega) (by omega);have l8:=lF ir m.ej (fun x _=>by have:=(eF (lY x).length).1;simp only [ir,ah];omega);obtain⟨f8,g8,k8⟩:=kj (no:=10) (put:=ir) (get:=lJ) (l:=m.ej) (m:=(⟨m.types,m.imports,m.funcs,m.table,m.mem,m.globals,m.ea,m.elems,[],[]⟩:ez)) (m':=(⟨m.types,m.imports,m.funcs,m.table,m.mem,m.globals,m.ea,m.elems,m.ej,[]⟩:ez)) (fun x=>(⟨m.types,m.imports,m.funcs,m.table,m.mem,m.globals,m.ea,m.elems,x,[]⟩:ez)) (fun b=>rfl) (fun h=>by rw [h]) (rfl) (fun x hx r=>Cl (h9 x hx) (hb x hx) (z8 hx hl) r) (by omega) v8 _ _ g7;rw [k8];have v9:=jw 11 nP m.eC (n:=7992) (by omega) (by omega);have l9:=lF nP m.eC (fun x _=>by simp [nP,nw]);rw [show fE 11 nP m.eC=fE 11 nP m.eC++[]from(bO _).symm]at g8⊢;obtain⟨f9,g9,k9⟩:=kj (no:=11) (put:=nP) (get:=th) (l:=m.eC) (m:=(⟨m.types,m.imports,m.funcs,m.table,m.mem,m.globals,m.ea,m.elems,m.ej,[]⟩:ez)) (m':=(⟨m.types,m.imports,m.funcs,m.table,m.mem,m.globals,m.ea,m.elems,m.ej,m.eC⟩:ez)) (fun x=>(⟨m.types,m.imports,m.funcs,m.table,m.mem,m.globals,m.ea,m.elems,m.ej,x⟩:ez)) (fun b=>rfl) (fun h=>by rw [h]) (rfl) (fun x hx r=>FE (h10 x hx) r) (by omega) v9 _ _ g8;rw [k9];obtain⟨f',rfl⟩:∃f',f9=f'+1:=⟨f9 - 1,by simp at g9;omega⟩;rfl
structure mO where
 op:Int
 kind:Int
 eM:Nat
 dead:Bool
deriving DecidableEq
structure eI where
 dZ:List Int
 eS:List mO
 bad:Bool
deriving DecidableEq
def eI.need (c:eI) (ok:Bool):eI:={c with bad:=c.bad || !ok}
def eI.push (c:eI) (l:List Int):eI:={c with dZ:=c.dZ++l}
def eI.top (c:eI):mO:=c.eS.getLast?.getD ⟨0,0,0,false⟩
def eI.pop (c:eI) (want:Int):Int × eI:=
 if c.dZ.length=c.top.eM then(want,c.need c.top.dead)
 else if c.dZ.getLast?.getD 0=0 then(want,{c with dZ:=c.dZ.dropLast})
 else(c.dZ.getLast?.getD 0,({c with dZ:=c.dZ.dropLast}:eI).need (want==0 || c.dZ.getLast?.getD 0==want))
def eI.ny (c:eI):List Int ->eI
 | []=>c
 | k::l=>(c.pop k).2.ny l
def eI.fS (c:eI) (l:List Int):eI:=c.ny l.reverse
def gK (k:Int):List Int:=if k=0 then []else [k]
def eI.begin (c:eI) (op kind:Int):eI:={c with eS:=c.eS++[⟨op,kind,c.dZ.length,false⟩]}
def eI.BB (c:eI):eI:=(c.fS (gK c.top.kind)).need ((c.fS (gK c.top.kind)).dZ.length==c.top.eM)
def eI.shut (c:eI):mO × eI:=(c.top,{c.BB with eS:=c.BB.eS.dropLast})
def eI.dead (c:eI):eI:={c with dZ:=c.dZ.take c.top.eM,eS:=c.eS.dropLast++[{c.top with dead:=true}]}
def eI.xw (c:eI) (n:Int):mO:=(c.eS[c.eS.length - 1 - n.toNat]?).getD ⟨0,0,0,false⟩
def eI.label (c:eI) (n:Int):List Int × eI:=
 if(c.eS.length:Int) <=n then([],{c with bad:=true})else(if(c.xw n).op=3 then []else gK (c.xw n).kind,c)
def typeOf (m:ez) (t:Int):gr × Bool:=if t < 0\/(m.types.length:Int) <=t then(⟨[],[]⟩,false)else((m.types[t.toNat]?).getD ⟨[],[]⟩,true)
def gB (m:ez) (f:Int):gr × Bool:=
 typeOf m (if f < m.imports.length then((m.imports[f.toNat]?).map jh.type).getD 0 else if f - m.imports.length < m.funcs.length then(m.funcs[(f - m.imports.length).toNat]?).getD 0 else -1)
def eI.calls (c:eI) (t:gr × Bool):eI:=((c.need t.2).fS t.1.params).push t.1.results
def eI.BA (c:eI) (want:List Int):List Int ->eI
 | []=>c
 | n::l=>((c.label n).2.need (((c.label n).1.length==want.length)&&((c.label n).1.length==0 || (c.label n).1.head?==want.head?))).BA want l
def eI.table (c:eI) (x:eK):eI:=((((c.pop 1).2.label x.a).2.BA ((c.pop 1).2.label x.a).1 x.l).fS ((c.pop 1).2.label x.a).1).dead
def eI.control (m:ez) (c:eI) (x:eK):Option eI:=
 if x.op=0 then some c.dead
 else if x.op=1 then some c
 else if x.op=2\/x.op=3 then some (c.begin x.op x.a)
 else if x.op=4 then some ((c.pop 1).2.begin x.op x.a)
 else if x.op=5 then some (c.shut.2.begin 5 c.shut.1.kind)
 else if x.op=11 then some ((c.shut.2.need (c.shut.1.op !=4 || c.shut.1.kind==0)).push (gK c.shut.1.kind))
 else if x.op=12 then some ((c.label x.a).2.fS (c.label x.a).1).dead
 else if x.op=13 then some ((((c.pop 1).2.label x.a).2.fS ((c.pop 1).2.label x.a).1).push ((c.pop 1).2.label x.a).1)
 else if x.op=14 then some (c.table x)
 else if x.op=15 then some (c.fS (gK ((c.eS.head?.map mO.kind).getD 0))).dead
 else if x.op=16 then some (c.calls (gB m x.a))
 else if x.op=17 then some (((c.need m.table.has).pop 1).2.calls (typeOf m x.a))
 else none
def eI.local (ls:List Int) (c:eI) (n:Int):Int × eI:=if(ls.length:Int) <=n then(0,{c with bad:=true})else((ls[n.toNat]?).getD 0,c)
def eI.global (m:ez) (c:eI) (n:Int):ja × eI:=if(m.globals.length:Int) <=n then(⟨false,⟨0,0⟩⟩,{c with bad:=true})else((m.globals[n.toNat]?).getD ⟨false,⟨0,0⟩⟩,c)
def eI.access (m:ez) (c:eI) (x:eK) (align:Int) (takes makes:List Int):eI:=((c.need (m.mem.has&&decide (x.a <=align))).fS takes).push makes
def eI.plain (m:ez) (ls:List Int) (c:eI) (x:eK):eI:=
 if x.op=26 then(c.pop 0).2
 else if x.op=27 then((((c.pop 1).2.pop 0).2.pop ((c.pop 1).2.pop 0).1).2).push [(((c.pop 1).2.pop 0).2.pop ((c.pop 1).2.pop 0).1).1]
 else if x.op=32 then(c.local ls x.a).2.push [(c.local ls x.a).1]
 else if x.op=33 then((c.local ls x.a).2.pop (c.local ls x.a).1).2
 else if x.op=34 then(((c.local ls x.a).2.pop (c.local ls x.a).1).2.local ls x.a).2.push [(((c.local ls x.a).2.pop (c.local ls x.a).1).2.local ls x.a).1]
 else if x.op=35 then(c.global m x.a).2.push [(c.global m x.a).1.init.kind]
 else if x.op=36 then(((c.global m x.a).2.need (c.global m x.a).1.isVar).pop (c.global m x.a).1.init.kind).2
 else if x.op=40 then c.access m x 2 [1] [1]
 else if x.op=41 then c.access m x 3 [1] [2]
 else if x.op=44\/x.op=45 then c.access m x 0 [1] [1]
 else if x.op=54 then c.access m x 2 [1,1] []
 else if x.op=55 then c.access m x 3 [1,2] []
 else if x.op=58 then c.access m x 0 [1,1] []
 else if x.op=63 then c.access m x 0 [] [1]
 else if x.op=64 then c.access m x 0 [1] [1]
 else if x.op=65 then c.push [1]
 else if x.op=66 then c.push [2]
 else((c.need (eX x.op).2.2).fS (eX x.op).1).push [(eX x.op).2.1]
def eI.step (m:ez) (ls:List Int) (c:eI) (x:eK):eI:=(c.control m x).getD (c.plain m ls x)
def eI.run (m:ez) (ls:List Int):eI ->List eK ->Option eI
 | c,[]=>some c
 | c,x::l=>if(c.step m ls x).bad=true then none else eI.run m ls (c.step m ls x) l
def fQ (m:ez) (k:Int):Bool:=
 if k < 0\/(m.ej.length:Int) <=k\/(m.funcs.length:Int) <=k then false
 else
  let code:=(m.ej[k.toNat]?).getD ⟨[],[]⟩
  let t:=typeOf m ((m.funcs[k.toNat]?).getD 0)
  if t.2=false\/(fC code.body).isSome=false then false
  else
   let ls:=t.1.params++code.locals
   match eI.run m ls (({dZ:=[],eS:=[],bad:=false}:eI).begin 2 (t.1.results.head?.getD 0)) code.body with
   | none=>false
   | some c=> !c.shut.2.bad&&decide (ls.length <=32)
theorem eI.mZ (c:eI) (b:Bool):(c.need b).eS=c.eS:=rfl
theorem eI.wC (c:eI) (b:Bool):(c.need b).dZ=c.dZ:=rfl
theorem eI.tB (c:eI) (l:List Int):(c.push l).eS=c.eS:=rfl
theorem eI.pH (c:eI) (k:Int):(c.pop k).2.eS=c.eS:=by
 unfold eI.pop;split
 ·rfl
 ·split <;>rfl
theorem eI.qX:∀(l:List Int) (c:eI),(c.ny l).eS=c.eS
 | [],c=>rfl
 | k::l,c=>by rw [eI.ny,eI.qX l,eI.pH]
theorem eI.ij (c:eI) (l:List Int):(c.fS l).eS=c.eS:=eI.qX _ _
def eI.sound (c:eI):Prop:=(∀x∈c.eS,x.eM <=c.dZ.length)/\c.eS.Pairwise fun a b=>a.eM <=b.eM
theorem eI.Hu {c:eI} (h:c.eS≠[]):c.top∈c.eS:=by
 unfold eI.top;rw [List.getLast?_eq_some_getLast h];exact List.getLast_mem h
theorem eI.sound.top {c:eI} (h:c.sound) (hn:c.eS≠[]):c.top.eM <=c.dZ.length:=h.1 _ (eI.Hu hn)
theorem eI.sound.le_top {c:eI} (h:c.sound) (hn:c.eS≠[]):∀x∈c.eS,x.eM <=c.top.eM:=by
 intro x hx;obtain⟨l,t,hl⟩:∃l t,c.eS=l++[t]:=⟨c.eS.dropLast,c.eS.getLast hn,(da hn).symm⟩;have ht:c.top=t:=by
  unfold eI.top;rw [hl];simp
 rw [ht];rw [hl]at hx;have hp:=h.2;rw [hl,cW]at hp;rcases bx.1 hx with h1 | h1
 ·exact hp.2.2 x h1 t (by simp)
 ·rw [aV.1 h1]
  exact ag _
theorem eI.sound.pop {c:eI} (h:c.sound) (hn:c.eS≠[]) (k:Int):(c.pop k).2.sound:=by
 have ht:=h.top hn;have hle:=h.le_top hn;unfold eI.pop;split
 ·exact h
 ·rename_i Ma
  have key:(({c with dZ:=c.dZ.dropLast}:eI)).sound:=⟨fun x hx=>by
   have:=hle x hx;simp only [dr];omega,h.2⟩
  split
  ·exact key
  ·exact key
theorem eI.sound.ny:∀(l:List Int) {c:eI},c.sound ->c.eS≠[] ->(c.ny l).sound
 | [],_,h,_=>h
 | k::l,c,h,hn=>eI.sound.ny l (h.pop hn k) (by rw [eI.pH];exact hn)
theorem eI.sound.fS {c:eI} (h:c.sound) (hn:c.eS≠[]) (l:List Int):(c.fS l).sound:=eI.sound.ny _ h hn
theorem eI.sound.push {c:eI} (h:c.sound) (l:List Int):(c.push l).sound:=⟨fun x hx=>by
 have:=h.1 x hx;simp only [eI.push,ah];omega,h.2⟩
theorem eI.sound.begin {c:eI} (h:c.sound) (op kind:Int):(c.begin op kind).sound:=by
 refine⟨fun x hx=>?_,?_⟩
 ·rcases bx.1 hx with h1 | h1
  ·exact h.1 x h1
  ·rw [aV.1 h1]
   exact ag _
 ·show(c.eS++[_]).Pairwise _
  rw [cW];exact⟨h.2,by simp,fun a ha b hb=>by rw [aV.1 hb];exact h.1 a ha⟩
def ez.lists (m:ez):Prop:=
 ((m.types.length <=16/\∀x∈m.types,x.may)/\(m.imports.length <=16/\∀x∈m.imports,x.may)/\((m.funcs.length:Int) <=16 - m.imports.length/\∀n∈m.funcs,fV n))/\
 (m.globals.length <=16/\∀x∈m.globals,x.init.may)/\(m.ea.length <=16/\∀x∈m.ea,x.may)/\(m.elems.length <=16/\∀x∈m.elems,x.may)/\(m.eC.length <=16/\∀x∈m.eC,x.may)
def ez.sW (m:ez):Prop:=m.ej.length=m.funcs.length/\m.ej.length <=16/\∀x∈m.ej,x.may
def ez.vg (m:ez):Prop:=m.sW/\m.lists/\m.table.may 16 1000/\m.mem.may 16 65536
def ez.may (m:ez):Prop:=m.vg/\(fB m).length <=8000
instance (t:gr):Decidable t.may:=by unfold gr.may;infer_instance
instance (x:jh):Decidable x.may:=by unfold jh.may;infer_instance
instance (x:iC):Decidable x.may:=by unfold iC.may;infer_instance
instance (x:iS):Decidable x.may:=by unfold iS.may;infer_instance
instance (x:gp):Decidable x.may:=by unfold gp.may;infer_instance
instance (x:gF):Decidable x.may:=by unfold gF.may;infer_instance
instance (m:ez):Decidable m.lists:=by unfold ez.lists;infer_instance
instance (m:ez):Decidable m.sW:=by unfold ez.sW;infer_instance
instance (m:ez):Decidable m.vg:=by unfold ez.vg;infer_instance
instance (m:ez):Decidable m.may:=by unfold ez.may;infer_instance
theorem ez.vg.Gz {m:ez} (h:m.vg):m.Gz:=by
 obtain⟨⟨_,_,h9⟩,⟨⟨⟨_,h1⟩,⟨_,h2⟩,_,h3⟩,⟨_,h6⟩,⟨_,h7⟩,⟨_,h8⟩,_,h10⟩,h4,h5⟩:=h;exact⟨h1,h2,h3,h4,h5,h6,h7,h8,h9,h10⟩
theorem BU {α:Type} (put:α ->List UInt8) (k:Nat):∀l:List α,(∀x∈l,(put x).length <=k) ->((l.map put).flatten).length <=k*l.length
 | [],_=>by simp
 | x::l,h=>by
  have h1:=h x (by simp);have h2:=BU put k l (fun y hy=>h y (by simp [hy]));simp only [bA,bS,ah,aI];rw [Nat.mul_add];omega
theorem jz {α:Type} (put:α ->List UInt8) (k n:Nat) (l:List α) (h:∀x∈l,(put x).length <=k) (hl:l.length <=n):(eU put l).length <=10+k*n:=by
 have h1:=BU put k l h;have h2:=(eF l.length).2;have h3:k*l.length <=k*n:=dH _ hl;simp only [eU,ah];omega
theorem nE {α:Type} (no:UInt8) (put:α ->List UInt8) (k n:Nat) (l:List α) (h:∀x∈l,(put x).length <=k) (hl:l.length <=n):(fE no put l).length <=21+k*n:=by
 cases l with
 | nil=>simp [fE]
 | cons x l=>
  have h1:=jz put k n _ h hl;have h2:=(eF (eU put (x::l)).length).2;simp only [fE,aI,ah]at h1 h2⊢;omega
theorem EL {t:gr} (h:t.may):(kI t).length <=100:=by
 obtain⟨⟨h1,_⟩,h2,_⟩:=h;have a:=jz ji 1 32 t.params (fun x _=>by simp [ji]) h1;have b:=jz ji 1 1 t.results (fun x _=>by simp [ji]) h2;simp only [kI,aI,ah];omega
theorem rG (n:Int):(rS n).length <=10:=(eF n.toNat).2
theorem nL {s:ByteArray} (h:jV s):(oK s).length <=26:=by
 have a:=(eF s.data.toList.length).2;have:=h.2.1;simp only [oK,ah];omega
theorem Hw {x:jh} (h:x.may):(nA x).length <=100:=by
 have a:=nL h.1;have b:=nL h.2.1;have c:=rG x.type;simp only [nA,aI,ah];omega
theorem qy (x:fP):(gE x).length <=30:=by
 have a:=(eF x.min.toNat).2;have b:=(eF x.max.toNat).2;unfold gE;split
 ·simp only [aI];omega
 ·simp only [aI,ah];omega
theorem wD (x:fP):(jj x).length <=31:=by
 have:=qy x;simp only [jj,aI];omega
theorem yM (n:Int) (h:iI n) (op:Int) (ho:op=65\/op=66):(ik ⟨op,n,0,[]⟩).length <=11:=by
 have s:=(tE h.1 h.2).2;rcases ho with rfl | rfl
 ·have:gh ⟨65,n,0,[]⟩=ie n:=rfl
  rw [ik,this,aI];omega
 ·have:gh ⟨66,n,0,[]⟩=ie n:=rfl
  rw [ik,this,aI];omega
theorem rO {v:fa} (h:v.ok):(ma v).length <=12:=by
 have:=yM v.n h.2 (if v.kind=2 then 66 else 65) (by split <;>simp);simp only [ma,ah,aB];omega
theorem EA {x:ja} (h:x.init.ok):(kE x).length <=14:=by
 have:=rO h;simp only [kE,ji,ah,aI,aK];omega
theorem Gb {x:iC} (h:x.may):(nR x).length <=100:=by
 have a:=nL h.1;have c:=rG x.func;simp only [nR,aI,ah];omega
theorem px {n:Int} (h:mb n):(nw n).length <=13:=by
 have:=rO (v:=⟨1,n⟩) ⟨⟨by show(-9223372036854775808:Int) <=1;decide,by show(1:Int) <=9223372036854775807;decide⟩,by have:=h.1;show(-9223372036854775808:Int) <=n;omega,by have:=h.2;show n <=(9223372036854775807:Int);omega⟩;simp only [nw,aI];omega
theorem Dy {x:iS} (h:x.may):(kT x).length <=600:=by
 have a:=px h.1;have b:=jz rS 10 50 x.funcs (fun y _=>rG y) h.2.1;simp only [kT,ah];omega
theorem Gs {x:gp} (h:x.may):(nP x).length <=1100:=by
 have a:=px h.1;have b:=(eF x.bytes.length).2;have:=h.2;simp only [nP,ah];omega
theorem Gd (x:Nat × Int):(xz x).length <=11:=by
 have:=(eF x.1).2;simp only [xz,ji,ah,aI,aK];omega
theorem uO {l:List Int} (h:l.length <=32):(kn l).length <=400:=by
 have h1:=pe l;have:=jz xz 11 32 (gz l) (fun x _=>Gd x) (by omega);simp only [kn];omega
def kK (x:fP):Bool:=x.has&&(decide (0 <=x.max)&&decide (x.max < x.min))
def ez.IQ (m:ez):Int:=m.imports.length+m.funcs.length
def lD (m:ez) (t:Int):Bool:=decide ((m.types.length:Int) <=t)
def lH (m:ez) (f:Int):Bool:=decide (m.IQ <=f)
def xc (m:ez) (pre:List iC) (x:iC):Bool:=lH m x.func || pre.any fun y=>x.name.toList==y.name.toList
def me (m:ez):List iC ->List iC ->Bool
 | _,[]=>false
 | pre,x::l=>xc m pre x || me m (pre++[x]) l
def xx (m:ez):Bool:=me m [] m.ea
def yH (m:ez):Bool:=m.elems.any fun x=>x.funcs.any fun f=>lH m f
def jr (m:ez):Nat ->Bool
 | 0=>true
 | k+1=>jr m k&&fQ m k
def iA (m:ez):Int:=
 if decide m.may=false then 0
 else if(m.imports.any fun x=>lD m x.type)=true then 2
 else if(m.funcs.any fun t=>lD m t)=true then 3
 else if kK m.table=true then 4
 else if kK m.mem=true then 5
 else if xx m=true then 7
 else if m.elems.length≠0/\m.table.has=false then 9
 else if yH m=true then 9
 else if jr m m.ej.length=false then 10
 else if m.eC.length≠0/\m.mem.has=false then 11
 else -1
theorem qF (m:ez) (x:iC):∀(l pre:List iC),me m pre (l++[x])=(me m pre l || xc m (pre++l) x)
 | [],pre=>by simp [me]
 | y::l,pre=>by
  simp only [bI,me,qF m x l (pre++[y]),aP,Bool.or_assoc,bL]
theorem eW {α:Type} {k:Nat} {enc:α ->List Value} {w:World} {v:Value} {l:List α} (h:eg k enc w v l):∃a cap,v= .slice a l.length cap/\l.length <=cap/\cap <=9223372036854775807:=by
 obtain⟨a,cap,hv,h1,h2,_⟩:=h;exact⟨a,cap,hv,h1,h2⟩
theorem vF {w:World} {v:Value} {l:List UInt8} (h:eJ w v l):∃a cap,v= .slice a l.length cap/\l.length <=cap/\cap <=9223372036854775807:=by
 obtain⟨a,cap,hv,h1,h2,_⟩:=h;exact⟨a,cap,hv,h1,h2⟩
theorem boxed {w w':World} {F:Value} {t:TypeId} (h:Below (w.alloc (.cells #[F] t)).heap.size (w.alloc (.cells #[F] t)) w'):w'.cell? ⟨w.heap.size,0,none⟩=some F/\Below w.heap.size w w':=
 ⟨by rw [h.cell (by simp),bQ];rfl,((an _ _).alloc (ag _) _).trans (h.mono (by simp))⟩
theorem CG (p:Int ->Bool) (v:Value) (l:List Int) (w:World) (hl:eg 1 fb w v l) (Kv:Nat) (cs:Array Value)
  (hE:∀args w,(callFunc Kv args).run prog w= .ok (.enter Kv args) w)
  (hp:∀e∈l,∀w',Below w.heap.size w w' ->Calls prog Kv (#[.int .i64 e]++cs) w' (ew (p e) w')):
  Calls prog 100 #[v, .func (.func Kv) #[] cs] w (jU p l w):=by
 have HP:=V hp;have HI:=V hl;obtain⟨a,cap,rfl,h1,h2,_⟩:=id hl;unfold maxLen at h2;clear hl hp;go_enter func100,ntmps100;go_wp2_with fail;refine eB (fun a' w'=>∃(k:Nat),a'=fr (.slice a l.length cap:: .func (.func Kv) #[] cs::gs a' 2 5 (.int .i64 l.length:: .int .i64 k::gs a' 9 10 []))/\pK p l w w' k) (fun a' _=>(l.length - (intOf (a'.tmps.getD 8 undef)).toNat)) ?_ ?_
 ·exact⟨0,rfl,by omega,fun i hi=>by omega,an _ _⟩
 ·skip
  rintro R a' w1 ⟨k,Kw,hJ⟩ HR;dsimp only [fr,gs]at Kw;generalize slot a'=f at Kw;subst Kw;obtain⟨hk,hm,hb⟩:=hJ;have Lv:=V hm;clear hm;by_cases Ls:k < l.length;rotate_left
  ·obtain rfl:k=l.length:=by omega
   go_wp2_with fail;go_ret;exact⟨by rw [gO Lv.out];rfl,hb⟩
  obtain⟨e,he⟩:∃e,l[k]?=some e:=⟨_,aq Ls⟩;obtain⟨a',KR,hv,_,_,Kt⟩:=HI.out.below (hb.mono (ag _));injection hv with e1 e2 e3;subst e1 e3;obtain⟨b,off,rfl,KC,hc⟩:=Kt k e he;have c0:=hc 0 _ rfl;rw [aL,bo]at c0;have KE:=HP.out e (aO he) w1 hb;have HE:=V he;clear Kt e2 he hc;cases hq:p e
  all_goals
   rw [hq]at KE;have HQ:=V hq;clear hq;go_wp2_with fail;refine KE.mono ?_;rintro x w2 ⟨rfl,Kx⟩;replace hb:=dY hb Kx;clear KE Kx c0;go_wp2_with fail
  ·refine HR.out _ _ ⟨k+1,rfl,by omega,?_,hb⟩ ?_
   ·intro i hi d hd
    rcases bC i k with h | h
    ·exact Lv.out i h d hd
    ·obtain rfl:i=k:=by omega
     rw [HE.out]at hd;injection hd with hd;rw [<- hd];exact HQ.out
   ·simp [intOf]
    omega
  ·go_ret
   exact⟨by rw [ic HE.out HQ.out Lv.out];rfl,hb⟩
theorem qq (p:Int ->Bool) (v:Value) (l:List Int) (w:World) (hl:eg 1 fb w v l) (Kv:Nat) (cs:Array Value)
  (hE:∀args w,(callFunc Kv args).run prog w= .ok (.enter Kv args) w)
  (hp:∀e∈l,∀w',Below w.heap.size w w' ->Calls prog Kv (#[.int .i64 e]++cs) w' (ew (p e) w')):
  Calls prog 63 #[v, .func (.func Kv) #[] cs] w (ew (l.any p) w):=by
 go_enter func63,ntmps63;go_wp2_with fail;refine(CG p v l _ hl Kv cs hE hp).mono ?_;rintro x w2 ⟨rfl,hb⟩;clear hE;go_wp2_with fail;go_ret;exact⟨by rw [<- iu];rfl,hb⟩
theorem Av (b:Bool) (n:Int) (Kv:Nat) (cs:Array Value) (X:Nat) (w:World)
  (hE:∀args w,(callFunc Kv args).run prog w= .ok (.enter Kv args) w) (hX:w.cell? ⟨X,0,none⟩=some (.func (.func Kv) #[] cs))
  (hp:∀w',Below w.heap.size w w' ->Calls prog Kv (#[.int .i64 n]++cs) w' (ew b w')):
  Calls prog 147 #[.int .i64 n, .pointer (some ⟨X,0,none⟩)] w (ew (!b) w):=by
 have KC:=aT w _ hX;have HP:=V hp;clear hp;go_enter func147,ntmps147;go_wp2_with fail;refine(HP.out _ (an _ _)).mono ?_;rintro x w2 ⟨rfl,hb⟩;clear hE hX;go_wp2_with fail;go_ret;exact⟨rfl,hb⟩
theorem tt (p:Int ->Bool) (v:Value) (l:List Int) (w:World) (hl:eg 1 fb w v l) (Kv:Nat) (fi:Int)
  (hE:∀args w,(callFunc Kv args).run prog w= .ok (.enter Kv args) w)
  (hp:∀e∈l,∀w',Below w.heap.size w w' ->Calls prog Kv #[.int .i64 e] w' (ew (p e) w')):
  Calls prog 92 #[v, .int .i64 fi, .func (.func Kv) #[] #[]] w (ew (decide ((l.length:Int) <=fi)&&l.all p) w):=by
 have HP:=V hp;obtain⟨a,cap,rfl,h1,h2⟩:∃a cap,v= .slice a l.length cap/\l.length <=cap/\cap <=9223372036854775807:=eW hl;have HL:=V hl;clear hp hl;by_cases q:(l.length:Int) <=fi
 ·have f:decide ((l.length:Int) <=fi)=true:=aA q
  go_enter func92,ntmps92;go_wp2_with fail;refine bV (qq (fun e=> !p e) _ l _ (HL.out.below ((an _ _).alloc (ag _) _)) 147 #[.pointer (some ⟨w.heap.size,0,none⟩)] (fun args w=>by rfl) ?_) ?_
  ·intro e he w' hw'
   obtain⟨hX,hw⟩:=boxed hw';exact Av (p e) _ Kv #[] _ w' hE hX (fun w2 h2=>by simpa using HP.out e he w2 (hw.trans (h2.mono hw.size)))
  rintro x w2 ⟨rfl,hb⟩;clear hE;have HF:=V f;clear f;have f:decide ((l.length:Int) <=fi)=true:=HF.out;go_wp2_with fail;go_ret;refine⟨?_,((an _ _).alloc (ag _) _).trans (hb.mono (by simp))⟩;have e1:l.all p= !(l.any fun e=> !p e):=by rw [bT];simp
  rw [f,e1,cm];rfl
 ·have f:decide ((l.length:Int) <=fi)=false:=az q
  go_enter func92,ntmps92;go_wp2_with fail;go_ret;exact⟨by first | rfl | (rw [f];rfl),(an _ _).alloc (ag _) _⟩
theorem Hz (p:jh ->Bool) (v:Value) (l:List jh) (w:World) (hl:eg 3 sF w v l) (Kv:Nat) (cs:Array Value)
  (hE:∀args w,(callFunc Kv args).run prog w= .ok (.enter Kv args) w)
  (hp:∀e∈l,∀w',Below w.heap.size w w' ->Calls prog Kv (#[.agg #[.string e.mod, .string e.name, .int .i64 e.type]]++cs) w' (ew (p e) w')):
  Calls prog 99 #[v, .func (.func Kv) #[] cs] w (jU p l w):=by
 have HP:=V hp;have HI:=V hl;obtain⟨a,cap,rfl,h1,h2,_⟩:=id hl;unfold maxLen at h2;clear hl hp;go_enter func99,ntmps99;go_wp2_with fail;refine eB (fun a' w'=>∃(k:Nat),a'=fr (.slice a l.length cap:: .func (.func Kv) #[] cs::gs a' 2 5 (.int .i64 l.length:: .int .i64 k::gs a' 9 10 []))/\pK p l w w' k) (fun a' _=>(l.length - (intOf (a'.tmps.getD 8 undef)).toNat)) ?_ ?_
 ·exact⟨0,rfl,by omega,fun i hi=>by omega,an _ _⟩
 ·skip
  rintro R a' w1 ⟨k,Kw,hJ⟩ HR;dsimp only [fr,gs]at Kw;generalize slot a'=f at Kw;subst Kw;obtain⟨hk,hm,hb⟩:=hJ;have Lv:=V hm;clear hm;by_cases Ls:k < l.length;rotate_left
  ·obtain rfl:k=l.length:=by omega
   go_wp2_with fail;go_ret;exact⟨by rw [gO Lv.out];rfl,hb⟩
  obtain⟨e,he⟩:∃e,l[k]?=some e:=⟨_,aq Ls⟩;obtain⟨a',KR,hv,_,_,Kt⟩:=HI.out.below (hb.mono (ag _));injection hv with e1 e2 e3;subst e1 e3;obtain⟨b,off,rfl,KC,hc⟩:=Kt k e he;have c0:=hc 0 _ rfl;have c1:=hc 1 _ rfl;have c2:=hc 2 _ rfl;rw [aL]at c0;have KE:=HP.out e (aO he) w1 hb;have HE:=V he;clear Kt e2 he hc;cases hq:p e
  all_goals
   rw [hq]at KE;have HQ:=V hq;clear hq;go_wp2_with fail;refine KE.mono ?_;rintro x w2 ⟨rfl,Kx⟩;replace hb:=dY hb Kx;clear KE Kx c0 c1 c2;go_wp2_with fail
  ·refine HR.out _ _ ⟨k+1,rfl,by omega,?_,hb⟩ ?_
   ·intro i hi d hd
    rcases bC i k with h | h
    ·exact Lv.out i h d hd
    ·obtain rfl:i=k:=by omega
     rw [HE.out]at hd;injection hd with hd;rw [<- hd];exact HQ.out
   ·simp [intOf]
    omega
  ·go_ret
   exact⟨by rw [ic HE.out HQ.out Lv.out];rfl,hb⟩
theorem zu (p:jh ->Bool) (v:Value) (l:List jh) (w:World) (hl:eg 3 sF w v l) (Kv:Nat) (cs:Array Value)
  (hE:∀args w,(callFunc Kv args).run prog w= .ok (.enter Kv args) w)
  (hp:∀e∈l,∀w',Below w.heap.size w w' ->Calls prog Kv (#[.agg #[.string e.mod, .string e.name, .int .i64 e.type]]++cs) w' (ew (p e) w')):
  Calls prog 61 #[v, .func (.func Kv) #[] cs] w (ew (l.any p) w):=by
 go_enter func61,ntmps61;go_wp2_with fail;refine(Hz p v l _ hl Kv cs hE hp).mono ?_;rintro x w2 ⟨rfl,hb⟩;clear hE;go_wp2_with fail;go_ret;exact⟨by rw [<- iu];rfl,hb⟩
theorem Em (b:Bool) (s1 s2:ByteArray) (n:Int) (Kv:Nat) (cs:Array Value) (X:Nat) (w:World)
  (hE:∀args w,(callFunc Kv args).run prog w= .ok (.enter Kv args) w) (hX:w.cell? ⟨X,0,none⟩=some (.func (.func Kv) #[] cs))
  (hp:∀w',Below w.heap.size w w' ->Calls prog Kv (#[.agg #[.string s1, .string s2, .int .i64 n]]++cs) w' (ew b w')):
  Calls prog 247 #[.agg #[.string s1, .string s2, .int .i64 n], .pointer (some ⟨X,0,none⟩)] w (ew (!b) w):=by
 have KC:=aT w _ hX;have HP:=V hp;clear hp;go_enter func247,ntmps247;go_wp2_with fail;refine(HP.out _ ((an _ _).alloc (ag _) _)).mono ?_;rintro x w2 ⟨rfl,hb⟩;clear hE hX;go_wp2_with fail;go_ret;exact⟨rfl,((an _ _).alloc (ag _) _).trans (hb.mono (by simp))⟩
theorem Fj (p:jh ->Bool) (v:Value) (l:List jh) (w:World) (hl:eg 3 sF w v l) (Kv:Nat) (fi:Int)
  (hE:∀args w,(callFunc Kv args).run prog w= .ok (.enter Kv args) w)
  (hp:∀e∈l,∀w',Below w.heap.size w w' ->Calls prog Kv #[.agg #[.string e.mod, .string e.name, .int .i64 e.type]] w' (ew (p e) w')):
  Calls prog 156 #[v, .int .i64 fi, .func (.func Kv) #[] #[]] w (ew (decide ((l.length:Int) <=fi)&&l.all p) w):=by
 have HP:=V hp;obtain⟨a,cap,rfl,h1,h2⟩:∃a cap,v= .slice a l.length cap/\l.length <=cap/\cap <=9223372036854775807:=eW hl;have HL:=V hl;clear hp hl;by_cases q:(l.length:Int) <=fi
 ·have f:decide ((l.length:Int) <=fi)=true:=aA q
  go_enter func156,ntmps156;go_wp2_with fail;refine bV (zu (fun e=> !p e) _ l _ (HL.out.below ((an _ _).alloc (ag _) _)) 247 #[.pointer (some ⟨w.heap.size,0,none⟩)] (fun args w=>by rfl) ?_) ?_
  ·intro e he w' hw'
   obtain⟨hX,hw⟩:=boxed hw';exact Em (p e) _ _ _ Kv #[] _ w' hE hX (fun w2 h2=>by simpa using HP.out e he w2 (hw.trans (h2.mono hw.size)))
  rintro x w2 ⟨rfl,hb⟩;clear hE;have HF:=V f;clear f;have f:decide ((l.length:Int) <=fi)=true:=HF.out;go_wp2_with fail;go_ret;refine⟨?_,((an _ _).alloc (ag _) _).trans (hb.mono (by simp))⟩;have e1:l.all p= !(l.any fun e=> !p e):=by rw [bT];simp
  rw [f,e1,cm];rfl
 ·have f:decide ((l.length:Int) <=fi)=false:=az q
  go_enter func156,ntmps156;go_wp2_with fail;go_ret;exact⟨by first | rfl | (rw [f];rfl),(an _ _).alloc (ag _) _⟩
theorem Ia (p:ja ->Bool) (v:Value) (l:List ja) (w:World) (hl:eg 3 sG w v l) (Kv:Nat) (cs:Array Value)
  (hE:∀args w,(callFunc Kv args).run prog w= .ok (.enter Kv args) w)
  (hp:∀e∈l,∀w',Below w.heap.size w w' ->Calls prog Kv (#[.agg #[.bool e.isVar, .int .i64 e.init.kind, .int .i64 e.init.n]]++cs) w' (ew (p e) w')):
  Calls prog 287 #[v, .func (.func Kv) #[] cs] w (jU p l w):=by
 have HP:=V hp;have HI:=V hl;obtain⟨a,cap,rfl,h1,h2,_⟩:=id hl;unfold maxLen at h2;clear hl hp;go_enter func287,ntmps287;go_wp2_with fail;refine eB (fun a' w'=>∃(k:Nat),a'=fr (.slice a l.length cap:: .func (.func Kv) #[] cs::gs a' 2 5 (.int .i64 l.length:: .int .i64 k::gs a' 9 10 []))/\pK p l w w' k) (fun a' _=>(l.length - (intOf (a'.tmps.getD 8 undef)).toNat)) ?_ ?_
 ·exact⟨0,rfl,by omega,fun i hi=>by omega,an _ _⟩
 ·skip
  rintro R a' w1 ⟨k,Kw,hJ⟩ HR;dsimp only [fr,gs]at Kw;generalize slot a'=f at Kw;subst Kw;obtain⟨hk,hm,hb⟩:=hJ;have Lv:=V hm;clear hm;by_cases Ls:k < l.length;rotate_left
  ·obtain rfl:k=l.length:=by omega
   go_wp2_with fail;go_ret;exact⟨by rw [gO Lv.out];rfl,hb⟩
  obtain⟨e,he⟩:∃e,l[k]?=some e:=⟨_,aq Ls⟩;obtain⟨a',KR,hv,_,_,Kt⟩:=HI.out.below (hb.mono (ag _));injection hv with e1 e2 e3;subst e1 e3;obtain⟨b,off,rfl,KC,hc⟩:=Kt k e he;have c0:=hc 0 _ rfl;have c1:=hc 1 _ rfl;have c2:=hc 2 _ rfl;rw [aL]at c0;have KE:=HP.out e (aO he) w1 hb;have HE:=V he;clear Kt e2 he hc;cases hq:p e
  all_goals
   rw [hq]at KE;have HQ:=V hq;clear hq;go_wp2_with fail;refine KE.mono ?_;rintro x w2 ⟨rfl,Kx⟩;replace hb:=dY hb Kx;clear KE Kx c0 c1 c2;go_wp2_with fail
  ·refine HR.out _ _ ⟨k+1,rfl,by omega,?_,hb⟩ ?_
   ·intro i hi d hd
    rcases bC i k with h | h
    ·exact Lv.out i h d hd
    ·obtain rfl:i=k:=by omega
     rw [HE.out]at hd;injection hd with hd;rw [<- hd];exact HQ.out
   ·simp [intOf]
    omega
  ·go_ret
   exact⟨by rw [ic HE.out HQ.out Lv.out];rfl,hb⟩
theorem Dz (p:ja ->Bool) (v:Value) (l:List ja) (w:World) (hl:eg 3 sG w v l) (Kv:Nat) (cs:Array Value)
  (hE:∀args w,(callFunc Kv args).run prog w= .ok (.enter Kv args) w)
  (hp:∀e∈l,∀w',Below w.heap.size w w' ->Calls prog Kv (#[.agg #[.bool e.isVar, .int .i64 e.init.kind, .int .i64 e.init.n]]++cs) w' (ew (p e) w')):
  Calls prog 250 #[v, .func (.func Kv) #[] cs] w (ew (l.any p) w):=by
 go_enter func250,ntmps250;go_wp2_with fail;refine(Ia p v l _ hl Kv cs hE hp).mono ?_;rintro x w2 ⟨rfl,hb⟩;clear hE;go_wp2_with fail;go_ret;exact⟨by rw [<- iu];rfl,hb⟩
theorem Fm (b:Bool) (bb:Bool) (n1 n2:Int) (Kv:Nat) (cs:Array Value) (X:Nat) (w:World)
  (hE:∀args w,(callFunc Kv args).run prog w= .ok (.enter Kv args) w) (hX:w.cell? ⟨X,0,none⟩=some (.func (.func Kv) #[] cs))
  (hp:∀w',Below w.heap.size w w' ->Calls prog Kv (#[.agg #[.bool bb, .int .i64 n1, .int .i64 n2]]++cs) w' (ew b w')):
  Calls prog 251 #[.agg #[.bool bb, .int .i64 n1, .int .i64 n2], .pointer (some ⟨X,0,none⟩)] w (ew (!b) w):=by
 have KC:=aT w _ hX;have HP:=V hp;clear hp;go_enter func251,ntmps251;go_wp2_with fail;refine(HP.out _ ((an _ _).alloc (ag _) _)).mono ?_;rintro x w2 ⟨rfl,hb⟩;clear hE hX;go_wp2_with fail;go_ret;exact⟨rfl,((an _ _).alloc (ag _) _).trans (hb.mono (by simp))⟩
theorem DW (p:ja ->Bool) (v:Value) (l:List ja) (w:World) (hl:eg 3 sG w v l) (Kv:Nat) (fi:Int)
  (hE:∀args w,(callFunc Kv args).run prog w= .ok (.enter Kv args) w)
  (hp:∀e∈l,∀w',Below w.heap.size w w' ->Calls prog Kv #[.agg #[.bool e.isVar, .int .i64 e.init.kind, .int .i64 e.init.n]] w' (ew (p e) w')):
  Calls prog 160 #[v, .int .i64 fi, .func (.func Kv) #[] #[]] w (ew (decide ((l.length:Int) <=fi)&&l.all p) w):=by
 have HP:=V hp;obtain⟨a,cap,rfl,h1,h2⟩:∃a cap,v= .slice a l.length cap/\l.length <=cap/\cap <=9223372036854775807:=eW hl;have HL:=V hl;clear hp hl;by_cases q:(l.length:Int) <=fi
 ·have f:decide ((l.length:Int) <=fi)=true:=aA q
  go_enter func160,ntmps160;go_wp2_with fail;refine bV (Dz (fun e=> !p e) _ l _ (HL.out.below ((an _ _).alloc (ag _) _)) 251 #[.pointer (some ⟨w.heap.size,0,none⟩)] (fun args w=>by rfl) ?_) ?_
  ·intro e he w' hw'
   obtain⟨hX,hw⟩:=boxed hw';exact Fm (p e) _ _ _ Kv #[] _ w' hE hX (fun w2 h2=>by simpa using HP.out e he w2 (hw.trans (h2.mono hw.size)))
  rintro x w2 ⟨rfl,hb⟩;clear hE;have HF:=V f;clear f;have f:decide ((l.length:Int) <=fi)=true:=HF.out;go_wp2_with fail;go_ret;refine⟨?_,((an _ _).alloc (ag _) _).trans (hb.mono (by simp))⟩;have e1:l.all p= !(l.any fun e=> !p e):=by rw [bT];simp
  rw [f,e1,cm];rfl
 ·have f:decide ((l.length:Int) <=fi)=false:=az q
  go_enter func160,ntmps160;go_wp2_with fail;go_ret;exact⟨by first | rfl | (rw [f];rfl),(an _ _).alloc (ag _) _⟩
theorem GH (p:iC ->Bool) (v:Value) (l:List iC) (w:World) (hl:eg 2 qK w v l) (Kv:Nat) (cs:Array Value)
  (hE:∀args w,(callFunc Kv args).run prog w= .ok (.enter Kv args) w)
  (hp:∀e∈l,∀w',Below w.heap.size w w' ->Calls prog Kv (#[.agg #[.string e.name, .int .i64 e.func]]++cs) w' (ew (p e) w')):
  Calls prog 89 #[v, .func (.func Kv) #[] cs] w (jU p l w):=by
 have HP:=V hp;have HI:=V hl;obtain⟨a,cap,rfl,h1,h2,_⟩:=id hl;unfold maxLen at h2;clear hl hp;go_enter func89,ntmps89;go_wp2_with fail;refine eB (fun a' w'=>∃(k:Nat),a'=fr (.slice a l.length cap:: .func (.func Kv) #[] cs::gs a' 2 5 (.int .i64 l.length:: .int .i64 k::gs a' 9 10 []))/\pK p l w w' k) (fun a' _=>(l.length - (intOf (a'.tmps.getD 8 undef)).toNat)) ?_ ?_
 ·exact⟨0,rfl,by omega,fun i hi=>by omega,an _ _⟩
 ·skip
  rintro R a' w1 ⟨k,Kw,hJ⟩ HR;dsimp only [fr,gs]at Kw;generalize slot a'=f at Kw;subst Kw;obtain⟨hk,hm,hb⟩:=hJ;have Lv:=V hm;clear hm;by_cases Ls:k < l.length;rotate_left
  ·obtain rfl:k=l.length:=by omega
   go_wp2_with fail;go_ret;exact⟨by rw [gO Lv.out];rfl,hb⟩
  obtain⟨e,he⟩:∃e,l[k]?=some e:=⟨_,aq Ls⟩;obtain⟨a',KR,hv,_,_,Kt⟩:=HI.out.below (hb.mono (ag _));injection hv with e1 e2 e3;subst e1 e3;obtain⟨b,off,rfl,KC,hc⟩:=Kt k e he;have c0:=hc 0 _ rfl;have c1:=hc 1 _ rfl;rw [aL]at c0;have KE:=HP.out e (aO he) w1 hb;have HE:=V he;clear Kt e2 he hc;cases hq:p e
  all_goals
   rw [hq]at KE;have HQ:=V hq;clear hq;go_wp2_with fail;refine KE.mono ?_;rintro x w2 ⟨rfl,Kx⟩;replace hb:=dY hb Kx;clear KE Kx c0 c1;go_wp2_with fail
  ·refine HR.out _ _ ⟨k+1,rfl,by omega,?_,hb⟩ ?_
   ·intro i hi d hd
    rcases bC i k with h | h
    ·exact Lv.out i h d hd
    ·obtain rfl:i=k:=by omega
     rw [HE.out]at hd;injection hd with hd;rw [<- hd];exact HQ.out
   ·simp [intOf]
    omega
  ·go_ret
   exact⟨by rw [ic HE.out HQ.out Lv.out];rfl,hb⟩
theorem yi (p:iC ->Bool) (v:Value) (l:List iC) (w:World) (hl:eg 2 qK w v l) (Kv:Nat) (cs:Array Value)
  (hE:∀args w,(callFunc Kv args).run prog w= .ok (.enter Kv args) w)
  (hp:∀e∈l,∀w',Below w.heap.size w w' ->Calls prog Kv (#[.agg #[.string e.name, .int .i64 e.func]]++cs) w' (ew (p e) w')):
  Calls prog 58 #[v, .func (.func Kv) #[] cs] w (ew (l.any p) w):=by
 go_enter func58,ntmps58;go_wp2_with fail;refine(GH p v l _ hl Kv cs hE hp).mono ?_;rintro x w2 ⟨rfl,hb⟩;clear hE;go_wp2_with fail;go_ret;exact⟨by rw [<- iu];rfl,hb⟩
theorem E3 (b:Bool) (s1:ByteArray) (n:Int) (Kv:Nat) (cs:Array Value) (X:Nat) (w:World)
  (hE:∀args w,(callFunc Kv args).run prog w= .ok (.enter Kv args) w) (hX:w.cell? ⟨X,0,none⟩=some (.func (.func Kv) #[] cs))
  (hp:∀w',Below w.heap.size w w' ->Calls prog Kv (#[.agg #[.string s1, .int .i64 n]]++cs) w' (ew b w')):
  Calls prog 252 #[.agg #[.string s1, .int .i64 n], .pointer (some ⟨X,0,none⟩)] w (ew (!b) w):=by
 have KC:=aT w _ hX;have HP:=V hp;clear hp;go_enter func252,ntmps252;go_wp2_with fail;refine(HP.out _ ((an _ _).alloc (ag _) _)).mono ?_;rintro x w2 ⟨rfl,hb⟩;clear hE hX;go_wp2_with fail;go_ret;exact⟨rfl,((an _ _).alloc (ag _) _).trans (hb.mono (by simp))⟩
theorem Eg (p:iC ->Bool) (v:Value) (l:List iC) (w:World) (hl:eg 2 qK w v l) (Kv:Nat) (fi:Int)
  (hE:∀args w,(callFunc Kv args).run prog w= .ok (.enter Kv args) w)
  (hp:∀e∈l,∀w',Below w.heap.size w w' ->Calls prog Kv #[.agg #[.string e.name, .int .i64 e.func]] w' (ew (p e) w')):
  Calls prog 162 #[v, .int .i64 fi, .func (.func Kv) #[] #[]] w (ew (decide ((l.length:Int) <=fi)&&l.all p) w):=by
 have HP:=V hp;obtain⟨a,cap,rfl,h1,h2⟩:∃a cap,v= .slice a l.length cap/\l.length <=cap/\cap <=9223372036854775807:=eW hl;have HL:=V hl;clear hp hl;by_cases q:(l.length:Int) <=fi
 ·have f:decide ((l.length:Int) <=fi)=true:=aA q
  go_enter func162,ntmps162;go_wp2_with fail;refine bV (yi (fun e=> !p e) _ l _ (HL.out.below ((an _ _).alloc (ag _) _)) 252 #[.pointer (some ⟨w.heap.size,0,none⟩)] (fun args w=>by rfl) ?_) ?_
  ·intro e he w' hw'
   obtain⟨hX,hw⟩:=boxed hw';exact E3 (p e) _ _ Kv #[] _ w' hE hX (fun w2 h2=>by simpa using HP.out e he w2 (hw.trans (h2.mono hw.size)))
  rintro x w2 ⟨rfl,hb⟩;clear hE;have HF:=V f;clear f;have f:decide ((l.length:Int) <=fi)=true:=HF.out;go_wp2_with fail;go_ret;refine⟨?_,((an _ _).alloc (ag _) _).trans (hb.mono (by simp))⟩;have e1:l.all p= !(l.any fun e=> !p e):=by rw [bT];simp
  rw [f,e1,cm];rfl
 ·have f:decide ((l.length:Int) <=fi)=false:=az q
  go_enter func162,ntmps162;go_wp2_with fail;go_ret;exact⟨by first | rfl | (rw [f];rfl),(an _ _).alloc (ag _) _⟩
theorem GW (p:iS ->Bool) (v:Value) (l:List iS) (w:World) (hl:ee 2 tF gW w v l) (Kv:Nat) (cs:Array Value)
  (hE:∀args w,(callFunc Kv args).run prog w= .ok (.enter Kv args) w)
  (hp:∀e∈l,∀u w',Below w.heap.size w w' ->gW w' e u ->Calls prog Kv (#[.agg #[.int .i64 e.off,u]]++cs) w' (ew (p e) w')):
  Calls prog 101 #[v, .func (.func Kv) #[] cs] w (jU p l w):=by
 have HP:=V hp;have HI:=V hl;obtain⟨a,cap,rfl,h1,h2⟩:=ee.slice hl;clear hl hp;go_enter func101,ntmps101;go_wp2_with fail;refine eB (fun a' w'=>∃(k:Nat),a'=fr (.slice a l.length cap:: .func (.func Kv) #[] cs::gs a' 2 5 (.int .i64 l.length:: .int .i64 k::gs a' 9 10 []))/\pK p l w w' k) (fun a' _=>(l.length - (intOf (a'.tmps.getD 8 undef)).toNat)) ?_ ?_
 ·exact⟨0,rfl,by omega,fun i hi=>by omega,an _ _⟩
 ·skip
  rintro R a' w1 ⟨k,Kw,hJ⟩ HR;dsimp only [fr,gs]at Kw;generalize slot a'=f at Kw;subst Kw;obtain⟨hk,hm,hb⟩:=hJ;have Lv:=V hm;clear hm;by_cases Ls:k < l.length;rotate_left
  ·obtain rfl:k=l.length:=by omega
   go_wp2_with fail;go_ret;exact⟨by rw [gO Lv.out];rfl,hb⟩
  obtain⟨e,he⟩:∃e,l[k]?=some e:=⟨_,aq Ls⟩;obtain⟨b,off,u,rfl,KC,hc,hu⟩:=(ee.below HI.out (hb.mono (ag _)) (fun _ _ h=>h.below (hb.mono (ag _)))).get he;have KE:=HP.out e (aO he) u w1 hb hu;obtain⟨⟨a1,KK,rfl,-,-,-⟩,-⟩:=id hu;have c0:=hc 0 _ rfl;have c1:=hc 1 _ rfl;rw [aL]at c0;have HE:=V he;clear he hc hu;cases hq:p e
  all_goals
   rw [hq]at KE;have HQ:=V hq;clear hq;go_wp2_with fail;refine KE.mono ?_;rintro x w2 ⟨rfl,Kx⟩;replace hb:=dY hb Kx;clear KE Kx c0 c1;go_wp2_with fail
  ·refine HR.out _ _ ⟨k+1,rfl,by omega,?_,hb⟩ ?_
   ·intro i hi d hd
    rcases bC i k with h | h
    ·exact Lv.out i h d hd
    ·obtain rfl:i=k:=by omega
     rw [HE.out]at hd;injection hd with hd;rw [<- hd];exact HQ.out
   ·simp [intOf]
    omega
  ·go_ret
   exact⟨by rw [ic HE.out HQ.out Lv.out];rfl,hb⟩
theorem uH (p:iS ->Bool) (v:Value) (l:List iS) (w:World) (hl:ee 2 tF gW w v l) (Kv:Nat) (cs:Array Value)
  (hE:∀args w,(callFunc Kv args).run prog w= .ok (.enter Kv args) w)
  (hp:∀e∈l,∀u w',Below w.heap.size w w' ->gW w' e u ->Calls prog Kv (#[.agg #[.int .i64 e.off,u]]++cs) w' (ew (p e) w')):
  Calls prog 65 #[v, .func (.func Kv) #[] cs] w (ew (l.any p) w):=by
 go_enter func65,ntmps65;go_wp2_with fail;refine(GW p v l _ hl Kv cs hE hp).mono ?_;rintro x w2 ⟨rfl,hb⟩;clear hE;go_wp2_with fail;go_ret;exact⟨by rw [<- iu];rfl,hb⟩
theorem Ed (b:Bool) (z:Int) (a1:Option Addr) (n1 c1:Nat) (Kv:Nat) (cs:Array Value) (X:Nat) (w:World)
  (hE:∀args w,(callFunc Kv args).run prog w= .ok (.enter Kv args) w) (hX:w.cell? ⟨X,0,none⟩=some (.func (.func Kv) #[] cs))
  (hp:∀w',Below w.heap.size w w' ->Calls prog Kv (#[.agg #[.int .i64 z, .slice a1 n1 c1]]++cs) w' (ew b w')):
  Calls prog 253 #[.agg #[.int .i64 z, .slice a1 n1 c1], .pointer (some ⟨X,0,none⟩)] w (ew (!b) w):=by
 have KC:=aT w _ hX;have HP:=V hp;clear hp;go_enter func253,ntmps253;go_wp2_with fail;refine(HP.out _ ((an _ _).alloc (ag _) _)).mono ?_;rintro x w2 ⟨rfl,hb⟩;clear hE hX;go_wp2_with fail;go_ret;exact⟨rfl,((an _ _).alloc (ag _) _).trans (hb.mono (by simp))⟩
theorem D2 (p:iS ->Bool) (v:Value) (l:List iS) (w:World) (hl:ee 2 tF gW w v l) (Kv:Nat) (fi:Int)
  (hE:∀args w,(callFunc Kv args).run prog w= .ok (.enter Kv args) w)
  (hp:∀e∈l,∀u w',Below w.heap.size w w' ->gW w' e u ->Calls prog Kv #[.agg #[.int .i64 e.off,u]] w' (ew (p e) w')):
  Calls prog 164 #[v, .int .i64 fi, .func (.func Kv) #[] #[]] w (ew (decide ((l.length:Int) <=fi)&&l.all p) w):=by
 have HP:=V hp;obtain⟨a,cap,rfl,h1,h2⟩:∃a cap,v= .slice a l.length cap/\l.length <=cap/\cap <=9223372036854775807:=ee.slice hl;have HL:=V hl;clear hp hl;by_cases q:(l.length:Int) <=fi
 ·have f:decide ((l.length:Int) <=fi)=true:=aA q
  go_enter func164,ntmps164;go_wp2_with fail;refine bV (uH (fun e=> !p e) _ l _ (ee.below HL.out ((an _ _).alloc (ag _) _) (fun _ _ h=>h.below ((an _ _).alloc (ag _) _))) 253 #[.pointer (some ⟨w.heap.size,0,none⟩)] (fun args w=>by rfl) ?_) ?_
  ·intro e he u w' hw' hu
   obtain⟨hX,hw⟩:=boxed hw';obtain⟨⟨a1,KK,rfl,-,-,-⟩,-⟩:=id hu;exact Ed (p e) _ _ _ _ Kv #[] _ w' hE hX (fun w2 h2=>by simpa using HP.out e he _ w2 (hw.trans (h2.mono hw.size)) (hu.below h2))
  rintro x w2 ⟨rfl,hb⟩;clear hE;have HF:=V f;clear f;have f:decide ((l.length:Int) <=fi)=true:=HF.out;go_wp2_with fail;go_ret;refine⟨?_,((an _ _).alloc (ag _) _).trans (hb.mono (by simp))⟩;have e1:l.all p= !(l.any fun e=> !p e):=by rw [bT];simp
  rw [f,e1,cm];rfl
 ·have f:decide ((l.length:Int) <=fi)=false:=az q
  go_enter func164,ntmps164;go_wp2_with fail;go_ret;exact⟨by first | rfl | (rw [f];rfl),(an _ _).alloc (ag _) _⟩
theorem G0 (p:gp ->Bool) (v:Value) (l:List gp) (w:World) (hl:ee 2 pW gq w v l) (Kv:Nat) (cs:Array Value)
  (hE:∀args w,(callFunc Kv args).run prog w= .ok (.enter Kv args) w)
  (hp:∀e∈l,∀u w',Below w.heap.size w w' ->gq w' e u ->Calls prog Kv (#[.agg #[.int .i64 e.off,u]]++cs) w' (ew (p e) w')):
  Calls prog 288 #[v, .func (.func Kv) #[] cs] w (jU p l w):=by
 have HP:=V hp;have HI:=V hl;obtain⟨a,cap,rfl,h1,h2⟩:=ee.slice hl;clear hl hp;go_enter func288,ntmps288;go_wp2_with fail;refine eB (fun a' w'=>∃(k:Nat),a'=fr (.slice a l.length cap:: .func (.func Kv) #[] cs::gs a' 2 5 (.int .i64 l.length:: .int .i64 k::gs a' 9 10 []))/\pK p l w w' k) (fun a' _=>(l.length - (intOf (a'.tmps.getD 8 undef)).toNat)) ?_ ?_
 ·exact⟨0,rfl,by omega,fun i hi=>by omega,an _ _⟩
 ·skip
  rintro R a' w1 ⟨k,Kw,hJ⟩ HR;dsimp only [fr,gs]at Kw;generalize slot a'=f at Kw;subst Kw;obtain⟨hk,hm,hb⟩:=hJ;have Lv:=V hm;clear hm;by_cases Ls:k < l.length;rotate_left
  ·obtain rfl:k=l.length:=by omega
   go_wp2_with fail;go_ret;exact⟨by rw [gO Lv.out];rfl,hb⟩
  obtain⟨e,he⟩:∃e,l[k]?=some e:=⟨_,aq Ls⟩;obtain⟨b,off,u,rfl,KC,hc,hu⟩:=(ee.below HI.out (hb.mono (ag _)) (fun _ _ h=>h.below (hb.mono (ag _)))).get he;have KE:=HP.out e (aO he) u w1 hb hu;obtain⟨⟨a1,KK,rfl,-,-,-⟩,-⟩:=id hu;have c0:=hc 0 _ rfl;have c1:=hc 1 _ rfl;rw [aL]at c0;have HE:=V he;clear he hc hu;cases hq:p e
  all_goals
   rw [hq]at KE;have HQ:=V hq;clear hq;go_wp2_with fail;refine KE.mono ?_;rintro x w2 ⟨rfl,Kx⟩;replace hb:=dY hb Kx;clear KE Kx c0 c1;go_wp2_with fail
  ·refine HR.out _ _ ⟨k+1,rfl,by omega,?_,hb⟩ ?_
   ·intro i hi d hd
    rcases bC i k with h | h
    ·exact Lv.out i h d hd
    ·obtain rfl:i=k:=by omega
     rw [HE.out]at hd;injection hd with hd;rw [<- hd];exact HQ.out
   ·simp [intOf]
    omega
  ·go_ret
   exact⟨by rw [ic HE.out HQ.out Lv.out];rfl,hb⟩
theorem Dr (p:gp ->Bool) (v:Value) (l:List gp) (w:World) (hl:ee 2 pW gq w v l) (Kv:Nat) (cs:Array Value)
  (hE:∀args w,(callFunc Kv args).run prog w= .ok (.enter Kv args) w)
  (hp:∀e∈l,∀u w',Below w.heap.size w w' ->gq w' e u ->Calls prog Kv (#[.agg #[.int .i64 e.off,u]]++cs) w' (ew (p e) w')):
  Calls prog 254 #[v, .func (.func Kv) #[] cs] w (ew (l.any p) w):=by
 go_enter func254,ntmps254;go_wp2_with fail;refine(G0 p v l _ hl Kv cs hE hp).mono ?_;rintro x w2 ⟨rfl,hb⟩;clear hE;go_wp2_with fail;go_ret;exact⟨by rw [<- iu];rfl,hb⟩
theorem Eb (b:Bool) (z:Int) (a1:Option Addr) (n1 c1:Nat) (Kv:Nat) (cs:Array Value) (X:Nat) (w:World)
  (hE:∀args w,(callFunc Kv args).run prog w= .ok (.enter Kv args) w) (hX:w.cell? ⟨X,0,none⟩=some (.func (.func Kv) #[] cs))
  (hp:∀w',Below w.heap.size w w' ->Calls prog Kv (#[.agg #[.int .i64 z, .slice a1 n1 c1]]++cs) w' (ew b w')):
  Calls prog 255 #[.agg #[.int .i64 z, .slice a1 n1 c1], .pointer (some ⟨X,0,none⟩)] w (ew (!b) w):=by
 have KC:=aT w _ hX;have HP:=V hp;clear hp;go_enter func255,ntmps255;go_wp2_with fail;refine(HP.out _ ((an _ _).alloc (ag _) _)).mono ?_;rintro x w2 ⟨rfl,hb⟩;clear hE hX;go_wp2_with fail;go_ret;exact⟨rfl,((an _ _).alloc (ag _) _).trans (hb.mono (by simp))⟩
theorem Ex (p:gp ->Bool) (v:Value) (l:List gp) (w:World) (hl:ee 2 pW gq w v l) (Kv:Nat) (fi:Int)
  (hE:∀args w,(callFunc Kv args).run prog w= .ok (.enter Kv args) w)
  (hp:∀e∈l,∀u w',Below w.heap.size w w' ->gq w' e u ->Calls prog Kv #[.agg #[.int .i64 e.off,u]] w' (ew (p e) w')):
  Calls prog 167 #[v, .int .i64 fi, .func (.func Kv) #[] #[]] w (ew (decide ((l.length:Int) <=fi)&&l.all p) w):=by
 have HP:=V hp;obtain⟨a,cap,rfl,h1,h2⟩:∃a cap,v= .slice a l.length cap/\l.length <=cap/\cap <=9223372036854775807:=ee.slice hl;have HL:=V hl;clear hp hl;by_cases q:(l.length:Int) <=fi
 ·have f:decide ((l.length:Int) <=fi)=true:=aA q
  go_enter func167,ntmps167;go_wp2_with fail;refine bV (Dr (fun e=> !p e) _ l _ (ee.below HL.out ((an _ _).alloc (ag _) _) (fun _ _ h=>h.below ((an _ _).alloc (ag _) _))) 255 #[.pointer (some ⟨w.heap.size,0,none⟩)] (fun args w=>by rfl) ?_) ?_
  ·intro e he u w' hw' hu
   obtain⟨hX,hw⟩:=boxed hw';obtain⟨⟨a1,KK,rfl,-,-,-⟩,-⟩:=id hu;exact Eb (p e) _ _ _ _ Kv #[] _ w' hE hX (fun w2 h2=>by simpa using HP.out e he _ w2 (hw.trans (h2.mono hw.size)) (hu.below h2))
  rintro x w2 ⟨rfl,hb⟩;clear hE;have HF:=V f;clear f;have f:decide ((l.length:Int) <=fi)=true:=HF.out;go_wp2_with fail;go_ret;refine⟨?_,((an _ _).alloc (ag _) _).trans (hb.mono (by simp))⟩;have e1:l.all p= !(l.any fun e=> !p e):=by rw [bT];simp
  rw [f,e1,cm];rfl
 ·have f:decide ((l.length:Int) <=fi)=false:=az q
  go_enter func167,ntmps167;go_wp2_with fail;go_ret;exact⟨by first | rfl | (rw [f];rfl),(an _ _).alloc (ag _) _⟩
theorem Gu (p:eK ->Bool) (v:Value) (l:List eK) (w:World) (hl:ee 4 pI gN w v l) (Kv:Nat) (cs:Array Value)
  (hE:∀args w,(callFunc Kv args).run prog w= .ok (.enter Kv args) w)
  (hp:∀e∈l,∀u w',Below w.heap.size w w' ->gN w' e u ->Calls prog Kv (#[.agg #[.int .i64 e.op, .int .i64 e.a, .int .i64 e.b,u]]++cs) w' (ew (p e) w')):
  Calls prog 244 #[v, .func (.func Kv) #[] cs] w (jU p l w):=by
 have HP:=V hp;have HI:=V hl;obtain⟨a,cap,rfl,h1,h2⟩:=ee.slice hl;clear hl hp;go_enter func244,ntmps244;go_wp2_with fail;refine eB (fun a' w'=>∃(k:Nat),a'=fr (.slice a l.length cap:: .func (.func Kv) #[] cs::gs a' 2 5 (.int .i64 l.length:: .int .i64 k::gs a' 9 10 []))/\pK p l w w' k) (fun a' _=>(l.length - (intOf (a'.tmps.getD 8 undef)).toNat)) ?_ ?_
 ·exact⟨0,rfl,by omega,fun i hi=>by omega,an _ _⟩
 ·skip
  rintro R a' w1 ⟨k,Kw,hJ⟩ HR;dsimp only [fr,gs]at Kw;generalize slot a'=f at Kw;subst Kw;obtain⟨hk,hm,hb⟩:=hJ;have Lv:=V hm;clear hm;by_cases Ls:k < l.length;rotate_left
  ·obtain rfl:k=l.length:=by omega
   go_wp2_with fail;go_ret;exact⟨by rw [gO Lv.out];rfl,hb⟩
  obtain⟨e,he⟩:∃e,l[k]?=some e:=⟨_,aq Ls⟩;obtain⟨b,off,u,rfl,KC,hc,hu⟩:=(ee.below HI.out (hb.mono (ag _)) (fun _ _ h=>h.below (hb.mono (ag _)))).get he;have KE:=HP.out e (aO he) u w1 hb hu;obtain⟨⟨a1,KK,rfl,-,-,-⟩,-⟩:=id hu;have c0:=hc 0 _ rfl;have c1:=hc 1 _ rfl;have c2:=hc 2 _ rfl;have c3:=hc 3 _ rfl;rw [aL]at c0;have HE:=V he;clear he hc hu;cases hq:p e
  all_goals
   rw [hq]at KE;have HQ:=V hq;clear hq;go_wp2_with fail;refine KE.mono ?_;rintro x w2 ⟨rfl,Kx⟩;replace hb:=dY hb Kx;clear KE Kx c0 c1 c2 c3;go_wp2_with fail
  ·refine HR.out _ _ ⟨k+1,rfl,by omega,?_,hb⟩ ?_
   ·intro i hi d hd
    rcases bC i k with h | h
    ·exact Lv.out i h d hd
    ·obtain rfl:i=k:=by omega
     rw [HE.out]at hd;injection hd with hd;rw [<- hd];exact HQ.out
   ·simp [intOf]
    omega
  ·go_ret
   exact⟨by rw [ic HE.out HQ.out Lv.out];rfl,hb⟩
theorem E0 (p:eK ->Bool) (v:Value) (l:List eK) (w:World) (hl:ee 4 pI gN w v l) (Kv:Nat) (cs:Array Value)
  (hE:∀args w,(callFunc Kv args).run prog w= .ok (.enter Kv args) w)
  (hp:∀e∈l,∀u w',Below w.heap.size w w' ->gN w' e u ->Calls prog Kv (#[.agg #[.int .i64 e.op, .int .i64 e.a, .int .i64 e.b,u]]++cs) w' (ew (p e) w')):
  Calls prog 148 #[v, .func (.func Kv) #[] cs] w (ew (l.any p) w):=by
 go_enter func148,ntmps148;go_wp2_with fail;refine(Gu p v l _ hl Kv cs hE hp).mono ?_;rintro x w2 ⟨rfl,hb⟩;clear hE;go_wp2_with fail;go_ret;exact⟨by rw [<- iu];rfl,hb⟩
theorem EJ (b:Bool) (z1 z2 z3:Int) (a1:Option Addr) (n1 c1:Nat) (Kv:Nat) (cs:Array Value) (X:Nat) (w:World)
  (hE:∀args w,(callFunc Kv args).run prog w= .ok (.enter Kv args) w) (hX:w.cell? ⟨X,0,none⟩=some (.func (.func Kv) #[] cs))
  (hp:∀w',Below w.heap.size w w' ->Calls prog Kv (#[.agg #[.int .i64 z1, .int .i64 z2, .int .i64 z3, .slice a1 n1 c1]]++cs) w' (ew b w')):
  Calls prog 149 #[.agg #[.int .i64 z1, .int .i64 z2, .int .i64 z3, .slice a1 n1 c1], .pointer (some ⟨X,0,none⟩)] w (ew (!b) w):=by
 have KC:=aT w _ hX;have HP:=V hp;clear hp;go_enter func149,ntmps149;go_wp2_with fail;refine(HP.out _ ((an _ _).alloc (ag _) _)).mono ?_;rintro x w2 ⟨rfl,hb⟩;clear hE hX;go_wp2_with fail;go_ret;exact⟨rfl,((an _ _).alloc (ag _) _).trans (hb.mono (by simp))⟩
theorem FW (p:eK ->Bool) (v:Value) (l:List eK) (w:World) (hl:ee 4 pI gN w v l) (Kv:Nat) (fi:Int)
  (hE:∀args w,(callFunc Kv args).run prog w= .ok (.enter Kv args) w)
  (hp:∀e∈l,∀u w',Below w.heap.size w w' ->gN w' e u ->Calls prog Kv #[.agg #[.int .i64 e.op, .int .i64 e.a, .int .i64 e.b,u]] w' (ew (p e) w')):
  Calls prog 94 #[v, .int .i64 fi, .func (.func Kv) #[] #[]] w (ew (decide ((l.length:Int) <=fi)&&l.all p) w):=by
 have HP:=V hp;obtain⟨a,cap,rfl,h1,h2⟩:∃a cap,v= .slice a l.length cap/\l.length <=cap/\cap <=9223372036854775807:=ee.slice hl;have HL:=V hl;clear hp hl;by_cases q:(l.length:Int) <=fi
 ·have f:decide ((l.length:Int) <=fi)=true:=aA q
  go_enter func94,ntmps94;go_wp2_with fail;refine bV (E0 (fun e=> !p e) _ l _ (ee.below HL.out ((an _ _).alloc (ag _) _) (fun _ _ h=>h.below ((an _ _).alloc (ag _) _))) 149 #[.pointer (some ⟨w.heap.size,0,none⟩)] (fun args w=>by rfl) ?_) ?_
  ·intro e he u w' hw' hu
   obtain⟨hX,hw⟩:=boxed hw';obtain⟨⟨a1,KK,rfl,-,-,-⟩,-⟩:=id hu;exact EJ (p e) _ _ _ _ _ _ Kv #[] _ w' hE hX (fun w2 h2=>by simpa using HP.out e he _ w2 (hw.trans (h2.mono hw.size)) (hu.below h2))
  rintro x w2 ⟨rfl,hb⟩;clear hE;have HF:=V f;clear f;have f:decide ((l.length:Int) <=fi)=true:=HF.out;go_wp2_with fail;go_ret;refine⟨?_,((an _ _).alloc (ag _) _).trans (hb.mono (by simp))⟩;have e1:l.all p= !(l.any fun e=> !p e):=by rw [bT];simp
  rw [f,e1,cm];rfl
 ·have f:decide ((l.length:Int) <=fi)=false:=az q
  go_enter func94,ntmps94;go_wp2_with fail;go_ret;exact⟨by first | rfl | (rw [f];rfl),(an _ _).alloc (ag _) _⟩
def Wr (w:World) (b:Value) (B:Nat) (w':World) (v:Value) (L:List UInt8):Prop:=dX w' B v L/\dU (eA b) w w'/\eE w b v
theorem Wr.refl {w:World} {b:Value} {B:Nat} {L:List UInt8} (h:dX w B b L):Wr w b B w b L:=⟨h,dU.refl _ _,eE.refl _ _⟩
theorem Wr.step {w w1 w2:World} {b v1 v2:Value} {B:Nat} {L1 L2:List UInt8} (h:Wr w b B w1 v1 L1) (k:Wr w1 v1 B w2 v2 L2):Wr w b B w2 v2 L2:=
 ⟨k.1,h.2.1.trans k.2.1 (fun i hi=>h.2.2 i hi),h.2.2.trans k.2.2 h.2.1.size⟩
theorem Wr.alloc {w w1:World} {b v:Value} {B:Nat} {L:List UInt8} (h:Wr w b B w1 v L) (o:Obj):Wr w b B (w1.alloc o) v L:=⟨World.ownsRow.alloc h.1 _,h.2.1.alloc _,h.2.2⟩
theorem Wr.drew {w w1:World} {b v:Value} {B:Nat} {L:List UInt8} (h:Wr w b B w1 v L):Wr w b B w1.drew v L:=⟨h.1,h.2.1.drew,h.2.2⟩
theorem Wr.size {w w1:World} {b v:Value} {B:Nat} {L:List UInt8} (h:Wr w b B w1 v L):w.heap.size <=w1.heap.size:=h.2.1.size
theorem Wr.base {w w1:World} {b v:Value} {B:Nat} {L:List UInt8} (h:Wr w b B w1 v L) (hB:B <=w.heap.size):B <=w1.heap.size:=aW hB h.size
theorem Wr.below {w w1 w2:World} {b v:Value} {B:Nat} {L:List UInt8} (h:Wr w b B w1 v L) (hb:Below w1.heap.size w1 w2):Wr w b B w2 v L:=
 ⟨dX.below h.1 hb,h.2.1.trans (dU.dW (S:=fun _=>False) hb) (fun _ hi=>hi.elim),h.2.2⟩
def Aside (w:World) (b:Value) (X:Nat) (cs:Array Value) (t:TypeId):Prop:=eG w X cs t/\¬ eA b X
theorem Aside.next {w w1:World} {b v:Value} {B:Nat} {L:List UInt8} {X:Nat} {cs:Array Value} {t:TypeId} (h:Aside w b X cs t) (k:Wr w b B w1 v L):Aside w1 v X cs t:=
 ⟨h.1.keeps k.2.1 h.2,fun g=>(k.2.2 X g).elim h.2 (fun g=>by have:=h.1.lt;omega)⟩
theorem Aside.new {w:World} {b:Value} {B:Nat} {L:List UInt8} (h:dX w B b L) (cs:Array Value) (t:TypeId):Aside (w.alloc (.cells cs t)) b w.heap.size cs t:=
 ⟨eG.new w cs t,fun g=>by have:=(et h g).2;omega⟩
theorem Aside.alloc {w:World} {b:Value} {X:Nat} {cs:Array Value} {t:TypeId} (h:Aside w b X cs t) (o:Obj):Aside (w.alloc o) b X cs t:=⟨h.1.alloc o,h.2⟩
theorem Aside.drew {w:World} {b:Value} {X:Nat} {cs:Array Value} {t:TypeId} (h:Aside w b X cs t):Aside w.drew b X cs t:=⟨h.1.drew,h.2⟩
theorem Aside.cell {w:World} {b:Value} {X:Nat} {cs:Array Value} {t:TypeId} (h:Aside w b X cs t) (i:Nat):w.cell? ⟨X,i,none⟩=cs[i]?:=h.1.cell i
def Src (w0 w:World) (B:Nat):Prop:=Below w0.heap.size w0 w/\w0.heap.size <=B
theorem Src.next {w0 w w1:World} {b v:Value} {B:Nat} {L0 L:List UInt8} (h:Src w0 w B) (Ku:dX w B b L0) (k:Wr w b B w1 v L):Src w0 w1 B:=
 ⟨h.1.trans (k.2.1.below h.1.size (fun _ hi=>aW h.2 (et Ku hi).1)),h.2⟩
theorem Src.alloc {w0 w:World} {B:Nat} (h:Src w0 w B) (o:Obj):Src w0 (w.alloc o) B:=⟨h.1.alloc h.1.size o,h.2⟩
theorem Src.drew {w0 w:World} {B:Nat} (h:Src w0 w B):Src w0 w.drew B:=⟨h.1.drew,h.2⟩
theorem Src.below {w0 w w1:World} {B:Nat} (h:Src w0 w B) (hb:Below w.heap.size w w1):Src w0 w1 B:=⟨h.1.trans (hb.mono h.1.size),h.2⟩
theorem Aside.below {w w1:World} {b:Value} {X:Nat} {cs:Array Value} {t:TypeId} (h:Aside w b X cs t) (hb:Below w.heap.size w w1):Aside w1 b X cs t:=⟨h.1.below hb h.1.lt,h.2⟩
end Go.Proofs.YthbjdhjppbcneaaGreatDoor
