import Derived.Test.YthbjdhjppbcneaaGreatDoorStackJ4
import Derived.Deep.Cut
namespace Go.Proofs.YthbjdhjppbcneaaGreatDoor
set_option maxRecDepth 100000
set_option maxHeartbeats 20000000
open Go.RowKit Tryz
open Lib renaming hid->V
set_option linter.all false
theorem jv (b:jU):(wK b).length=3:=rfl
theorem fp (x:Int):(eZ x).length=1:=rfl
theorem Dn (b:jU):∀u∈wK b,u.oneCell'=true:=by
 intro u hu;simp only [wK,bJ,bO,cS]at hu;rcases hu with rfl | rfl | rfl <;>rfl
theorem jH:(prog.info? 3).map (fun i=>(i.zero,i.size,i.bytes))=some (some (.int .i64 0),1,8):=by kernel_rfl
theorem Br:(prog.info? 107).map (fun i=>(i.zero,i.size,i.bytes))=some (some (.agg #[.int .i64 0, .int .i64 0, .int .i64 0]),3,24):=by kernel_rfl
theorem pr (n:Int) (w:World):Calls prog 73 #[.int .i64 n] w (et (jS n) w):=by
 by_cases q0:n=2
 ·have f0:=eF q0
  have HB:=V (show jS n=true by rw [q0];rfl);clear q0;go_enter func73,ntmps73;go_wp2_with fail;go_ret;exact⟨by rw [HB.out];rfl,an _ _⟩
 have f0:=dQ q0;by_cases q1:n=3
 ·have f1:=eF q1
  have HB:=V (show jS n=true by rw [q1];rfl);clear q0 q1;go_enter func73,ntmps73;go_wp2_with fail;go_ret;exact⟨by rw [HB.out];rfl,an _ _⟩
 have f1:=dQ q1;by_cases q2:n=4
 ·have f2:=eF q2
  have HB:=V (show jS n=true by rw [q2];rfl);clear q0 q1 q2;go_enter func73,ntmps73;go_wp2_with fail;go_ret;exact⟨by rw [HB.out];rfl,an _ _⟩
 have f2:=dQ q2;have HB:=V (show jS n=false by unfold jS;rw [f0,f1,f2];rfl);clear q0 q1 q2;go_enter func73,ntmps73;go_wp2_with fail;go_ret;exact⟨by rw [HB.out];rfl,an _ _⟩
theorem dR.dropLast {α:Type} {t:TypeId} {k:Nat} {enc:α ->List Value} {w:World} {B:Nat} {a:Option Addr} {m cap:Nat} {l:List α} (h:dR t k enc w B (.slice a (m+1) cap) l) (hm:l.length=m+1) (hk:∀x,(enc x).length=k):
  dR t k enc w B (.slice a m cap) l.dropLast:=by
 obtain⟨hl,hv | ⟨g,KE,cur,hv,hb,hg,hn,hc,hs,ht⟩⟩:=h
 ·injection hv.1 with _ e;omega
 ·have N7:l.dropLast.length=m:=by rw [dn,hm];rfl
  injection hv with e1 e2 e3;subst e1 e3;refine⟨by rw [jL hk], .inr ⟨g,cap,cur,by rw [N7],hb,hg,by rw [N7];omega,hc,hs,?_⟩⟩;have e4:(l.dropLast.flatMap enc)=(l.flatMap enc).take (m*k):=by
   have Mf:l≠[]:=by intro e;rw [e]at hm;simp at hm
   conv=>rhs;rw [<- db Mf,List.flatMap_append]
   rw [List.take_append_of_le_length (by rw [jL hk,N7];exact ag _)];rw [dd (by rw [jL hk,N7];exact ag _)]
  rw [e4, <- ht,N7,List.take_take]
  congr 1
  rw [hm];have:m*k <=(m+1)*k:=dk _ (by omega);omega
theorem vg (a:Option Addr) (m cap:Nat) (h:m+1 <=cap) (wx:World):
  (Instr.slice 25 (.slice a (m+1) cap) none (some (.int .i64 m)) none).run prog wx= .ok (.slice a m cap) wx:=by
 have hu:prog.underlying 25=some (.slice 3):=by kernel_rfl
 obtain⟨i0,hi,MY,LG,Mm⟩:=cd jH;simp [Instr.slice,bo hu,Instr.sliceBounds,Instr.sliceBound,sizeOf,typeInfo,hi,asIntOf,show m <=cap by omega];cases a <;>simp [Addr.add]
def Et (l:List eK) (w:World) (e:Ending) (w':World):Prop:=
 Below w.heap.size w w'/\((∃bs v,fu l=some bs/\e= .returned (.tuple #[v, .bool true])/\dR 107 3 wK w' w.heap.size v bs)\/(fu l=none/\e= .returned (.tuple #[.slice none 0 0, .bool false])))
def Kc (l:List eK) (w w':World) (va vo:Value) (k:Nat) (all:List jU) (NW:List Nat):Prop:=
 k <=l.length/\gq l l 0 ([],[])=gq l (l.drop k) k (all,NW)/\dR 107 3 wK w' w.heap.size va all/\dR 3 1 eZ w' w.heap.size vo (NW.map fun x:Nat=>(x:Int))/\Below w.heap.size w w'/\
 NW.length <=40/\(∀j∈NW,j < all.length)/\(∀b∈all,0 <=b.pos/\b.pos < l.length)/\all.length <=k
theorem xB {l:List eK} {k:Nat} {x:eK} {st:List jU × List Nat} (hx:l[k]?=some x) (h:gq l l 0 ([],[])=gq l (l.drop k) k st) (hs:gb l k x st=none) (hl:l.length <=300):fu l=none:=by
 obtain⟨hk,rfl⟩:=aL.1 hx;rw [cA hk,gq,hs]at h;unfold fu;rw [aC (by omega),h];rfl
theorem xe {l:List eK} {k:Nat} {x:eK} {st Nw:List jU × List Nat} (hx:l[k]?=some x) (h:gq l l 0 ([],[])=gq l (l.drop k) k st) (hs:gb l k x st=some Nw):gq l l 0 ([],[])=gq l (l.drop (k+1)) (k+1) Nw:=by
 obtain⟨hk,rfl⟩:=aL.1 hx;rw [cA hk,gq,hs]at h;exact h
theorem pC (v:Value) (l:List eK) (w:World) (hl:gd w v l):Calls prog 34 #[v] w (Et l w):=by
 obtain⟨a,cap,rfl,h1,h2⟩:=ea.slice hl;have HL:=V hl;clear hl;by_cases q300:l.length <=300;rotate_left
 ·have f0:decide ((300:Int) < (l.length:Int))=true:=az (by omega)
  have HM:=V (show fu l=none by unfold fu;rw [if_pos (by omega)]);go_enter func34,ntmps34;go_wp2_with fail
  go_ret2
  exact⟨an _ _, .inr ⟨HM.out,rfl⟩⟩
 have f0:decide ((300:Int) < (l.length:Int))=false:=aA (by omega);go_enter func34,ntmps34;go_wp2_with fail;clear f0;refine ez (fun a' w'=>∃(va vo:Value) (k:Nat) (all:List jU) (NW:List Nat),a'=fr (.slice a l.length cap::gs a' 1 3 (va::vo::gs a' 6 6 (.slice a l.length cap:: .int .i64 l.length:: .int .i64 k::gs a' 15 98 [])))/\Kc l w w' va vo k all NW) (fun a' _=>(l.length - (intOf (a'.tmps.getD 14 undef)).toNat)) ?_ ?_
 ·exact⟨_,_,0,[],[],rfl,by omega,rfl,dR.nil _ _,dR.nil _ _,an _ _,by simp,by simp,by simp,by simp⟩
 ·skip
  rintro R a' w1 ⟨va,vo,k,all,NW,Kk,hJ⟩ HR;dsimp only [fr,gs]at Kk;generalize slot a'=f at Kk;subst Kk;obtain⟨hk,hgo,KG,hopn,hb,ho40,K8,O0,hlen⟩:=hJ;obtain⟨ava,capva,rfl,_,hcva,-⟩:=KG.fD jv;obtain⟨avo,capvo,e,_,hcvo,-⟩:=hopn.fD fp;rw [bz]at e;subst e;unfold maxLen at hcva hcvo;obtain⟨n,hn⟩:∃n,NW.length=n:=⟨_,rfl⟩;rw [hn]at hopn ho40⊢;have L9:=V hn;have HGO:=V hgo;have KC:=V KG;have Mw:=V hopn;have KV:=V K8;have HPOS:=V O0;clear hgo KG hopn K8 O0 hn;by_cases q:k < l.length;rotate_left
  ·obtain rfl:k=l.length:=by omega
   have hgo:=HGO.out;rw [List.drop_length,gq]at hgo;rcases n with _ | m
   ·have ho:NW=[]:=aH L9.out
    have HM:=V (show fu l=some all by unfold fu;rw [if_neg (by omega),hgo];simp [ho]);clear hgo ho;go_wp2_with fail
    go_ret2
    exact⟨hb, .inl ⟨_,_,HM.out,rfl,KC.out⟩⟩
   ·have ho:NW≠[]:=fun e=>by have:=L9.out;rw [e]at this;simp at this
    have HM:=V (show fu l=none by unfold fu;rw [if_neg (by omega),hgo];simp [ho]);clear hgo ho;go_wp2_with fail
    go_ret2
    exact⟨hb, .inr ⟨HM.out,rfl⟩⟩
  obtain⟨x,hx⟩:∃x,l[k]?=some x:=⟨_,aq q⟩;obtain⟨b,off,u,rfl,Kq,hc,hu⟩:=(HL.out.below hb).get hx;obtain⟨⟨au,Kr,rfl,-,-,-⟩,-⟩:=id hu;have c0:=hc 0 _ rfl;have c1:=hc 1 _ rfl;have c2:=hc 2 _ rfl;have c3:=hc 3 _ rfl;rw [aK]at c0;obtain⟨op,xa,xb,xl⟩:=x;have HX:=V hx;have Pt:=V (fun h=>xB hx HGO.out h q300);have QB:=V (fun Nw h=>xe (Nw:=Nw) hx HGO.out h);clear hc hu hx;go_wp2_with fail;refine(pr op _).mono ?_;rintro e w2 ⟨rfl,Kl⟩;have d0:w2.cell? ⟨w1.heap.size,0,none⟩=some (.int .i64 op):=by rw [Kl.cell (by simp),bP];rfl
  have hb12:Below w1.heap.size w1 w2:=((an _ _).alloc (ag _) _).trans (Kl.mono (by simp));have hs12:w1.heap.size < w2.heap.size:=by have:=Kl.size;simp at this;omega
  have KC:=V (KC.out.below hb12);have Mw:=V (Mw.out.below hb12);have hb:=hb.trans (hb12.mono hb.size);clear Kl hb12 c0 c1 c2 c3;cases ho:jS op with
  | true=>
   have HO:=V ho;clear ho;by_cases qn:n=40
   ·subst qn
    have HM:=V (show fu l=none by
     refine Pt.out ?_;unfold gb;rw [aJ HO.out,aJ L9.out])
    go_wp2_with fail
    go_ret2
    exact⟨hb, .inr ⟨HM.out,rfl⟩⟩
   have fn:((n:Int)==40)=false:=dQ (by omega);have Ko:=V (QB.out (all++[⟨k,-1,-1⟩],NW++[all.length]) (by
    unfold gb;rw [aJ HO.out,aC (by rw [L9.out];exact qn)]))
   go_wp2_with fail;refine(pr op _).mono ?_;rintro e w3 ⟨rfl,K4⟩;rw [HO.out];have KC:=V (KC.out.below K4);have Mw:=V (Mw.out.below K4);have hb:=hb.trans (K4.mono hb.size);clear K4 d0 fn;have QA:=Mw.out;go_wp2_with (first | (at_builtin;refine eQ w3 rfl _ _ 25 rfl _ 8 (by kernel_rfl) jH rfl (by decide) (by decide) w.heap.size (.slice avo n capvo) (NW.map fun x:Nat=>(x:Int)) rfl QA (all.length:Int) _ rfl rfl (by simp [eZ,Value.oneCell']) rfl (by rw [bz,L9.out];omega) hb.size ?_));intro v4 w4 hopn4 N3 Mi;have QC:=KC.out.keeps N3 (fun i hi=>dR.ne KC.out QA (by decide) i hi);have Md:=hb.trans (N3.below hb.size (fun i hi=>(eo QA hi).1));clear N3 Mi QA KC Mw;go_wp2_with (first | (at_builtin;refine eQ w4 rfl _ _ 103 rfl _ 24 (by kernel_rfl) Br rfl (by decide) (by decide) w.heap.size (.slice ava all.length capva) all rfl QC (⟨k,-1,-1⟩:jU) _ rfl rfl (Dn _) rfl (by omega) Md.size ?_));intro v5 w5 hall5 NA Pu;have hopn5:=hopn4.keeps NA (fun i hi=>dR.ne hopn4 QC (by decide) i hi);have Lm:=Md.trans (NA.below Md.size (fun i hi=>(eo QC hi).1));have KC:=V hall5;have Mw:=V hopn5;clear hall5 hopn5 NA Pu QC hopn4 Md;go_wp2_with fail;refine HR.out _ _ ⟨_,_,k+1,all++[⟨k,-1,-1⟩],NW++[all.length],rfl,by omega,Ko.out,KC.out,by rw [cg];exact Mw.out,Lm,?_,?_,?_,?_⟩ ?_
   ·rw [ah,L9.out]
    show n+1 <=40;omega
   ·intro j hj
    rw [ah];show j < all.length+1;rcases bA.1 hj with h | h
    ·have:=KV.out j h
     omega
    ·rw [aV.1 h]
     omega
   ·intro b' KF
    rcases bA.1 KF with h | h
    ·exact HPOS.out b' h
    ·rw [aV.1 h]
     exact⟨by simp only;omega,by simp only;omega⟩
   ·rw [ah]
    show all.length+1 <=k+1;omega
   ·simp [intOf]
    omega
  | false=>
   have HO:=V ho;clear ho;go_wp2_with fail;refine(pr op _).mono ?_;rintro e w3 ⟨rfl,K4⟩;rw [HO.out];have d1:w3.cell? ⟨w1.heap.size,0,none⟩=some (.int .i64 op):=by rw [K4.cell hs12];exact d0
   have KC:=V (KC.out.below K4);have Mw:=V (Mw.out.below K4);have hb:=hb.trans (K4.mono hb.size);clear K4 d0 hs12;by_cases q5:op=5
   ·subst q5
    rcases n with _ | m
    ·have ho:NW=[]:=aH L9.out
     have HM:=V (Pt.out (by
      unfold gb;rw [aC (by rw [HO.out];decide),aC (by simp),ho];rfl))
     clear ho;go_wp2_with fail
     go_ret2
     exact⟨hb, .inr ⟨HM.out,rfl⟩⟩
    have hm0:((m:Int)+1==0)=false:=dQ (by omega);obtain⟨j,hj⟩:∃j,NW[m]?=some j:=⟨_,aq (by rw [L9.out];omega)⟩;have hja:=KV.out j (aO hj);obtain⟨bb,hbj⟩:∃bb,all[j]?=some bb:=⟨_,aq hja⟩;obtain⟨hp0,hp1⟩:=HPOS.out bb (aO hbj);obtain⟨P7,OC,bfin⟩:=bb;simp only at hp0 hp1;have HGL:=V (show NW.getLast?=some j by rw [dG,L9.out];exact hj);obtain⟨go,co,curo,e,-,-,-,hgm,-⟩:=Mw.out.open (by intro e;have:=L9.out;rw [List.map_eq_nil_iff.1 e]at this;simp at this);injection e with e1 e2 e3;subst e1 e3;rw [<- e2]at hgm;clear e2;obtain⟨ga,ca,cura,e,hga1,hga2,hga3,-,-⟩:=KC.out.open (by intro e;rw [e]at hja;simp at hja);injection e with e1 e2 e3;subst e1 e3;clear e2;have o0:=Mw.out.cell fp (i:=m) (j:=0) (x:=(j:Int)) (by rw [cn,hj];rfl) rfl;rw [bj,aK]at o0;have a0:=KC.out.cell jv (i:=j) (j:=0) hbj rfl;have a1:=KC.out.cell jv (i:=j) (j:=1) hbj rfl;have a2:=KC.out.cell jv (i:=j) (j:=2) hbj rfl;rw [aK]at a0;have HBJ:=V hbj;clear hbj hj;obtain⟨p,hp⟩:∃p:Nat,P7=p:=⟨P7.toNat,by omega⟩;subst hp;have hpl:p < l.length:=by omega
    obtain⟨y,hy⟩:∃y,l[p]?=some y:=⟨_,aq hpl⟩;obtain⟨b',off',u',Pn,-,LY,-⟩:=(HL.out.below hb).get hy;injection Pn with Pn;injection Pn with e1 e2;subst e1 e2;have g0:=LY 0 _ rfl;rw [aK]at g0;obtain⟨yo,ya,yb,yl⟩:=y;have g0:w3.cell? ⟨b,off+p*4,none⟩=some (.int .i64 yo):=g0;have HY:=V hy;have HMS:=V (show gb l k ⟨5,xa,xb,xl⟩ (all,NW)=(if yo≠4\/0 <=OC then none else some (all.set j ⟨p,k,bfin⟩,NW))by
     unfold gb;rw [aC (by rw [HO.out];decide),aC (by simp),HGL.out];simp only;rw [HBJ.out];simp only;rw [aC (by decide)];rw [show((p:Int)).toNat=p by omega,HY.out])
    clear LY hy;by_cases q4:yo=4;rotate_left
    ·have f4:=fc q4
     have HM:=V (Pt.out (by rw [HMS.out,aJ (.inl q4)]));clear q4;go_wp2_with fail
     go_ret2
     exact⟨hb, .inr ⟨HM.out,rfl⟩⟩
    subst q4;by_cases qe:0 <=OC
    ·have f4:decide (0 <=OC)=true:=az qe
     have HM:=V (Pt.out (by rw [HMS.out,aJ (.inr qe)]));go_wp2_with fail
     go_ret2
     exact⟨hb, .inr ⟨HM.out,rfl⟩⟩
    have f4:decide (0 <=OC)=false:=aA qe;have Ko:=V (QB.out _ (by rw [HMS.out,aC (by intro h;rcases h with h | h;exact h rfl;exact qe h)]));have hall':=KC.out.set jv (i:=j) (j:=1) (x:=⟨p,OC,bfin⟩) (y:=⟨p,k,bfin⟩) (u:= .int .i64 k) HBJ.out (by omega) rfl;have hopn':=Mw.out.keeps (iS w3 ga (j*3+1) (.int .i64 k)) (fun i hi h=>dR.ne Mw.out KC.out (by decide) i hi (by rw [show i=ga from h];rfl));have KF:=hb.setCell (p:=⟨ga,j*3+1,none⟩) hga1 (.int .i64 k);have z:w3.frozen? ⟨ga,j*3+1,none⟩=false:=cZ w3 ga _ cura _ hga3;have HALL':=V hall';have HOPN':=V hopn';clear hall' hopn' HMS hga3;go_wp2_with fail;refine HR.out _ _ ⟨_,_,k+1,all.set j ⟨p,k,bfin⟩,NW,rfl,by omega,Ko.out,HALL'.out,HOPN'.out,KF,by rw [L9.out];exact ho40,fun i hi=>by rw [di];exact KV.out i hi,fun c hc=>?_,by rw [di];omega⟩ ?_
    ·rcases dH hc with h | h
     ·exact HPOS.out c h
     ·rw [h]
      exact⟨by simp only;omega,by simp only;omega⟩
    ·simp [intOf]
     omega
   by_cases N8:op=11
   ·subst N8
    clear q5;rcases n with _ | m
    ·have ho:NW=[]:=aH L9.out
     have HM:=V (Pt.out (by
      unfold gb;rw [aC (by rw [HO.out];decide),aC (by simp),ho];rfl))
     clear ho;go_wp2_with fail
     go_ret2
     exact⟨hb, .inr ⟨HM.out,rfl⟩⟩
    have hm0:((m:Int)+1==0)=false:=dQ (by omega);obtain⟨j,hj⟩:∃j,NW[m]?=some j:=⟨_,aq (by rw [L9.out];omega)⟩;have hja:=KV.out j (aO hj);obtain⟨bb,hbj⟩:∃bb,all[j]?=some bb:=⟨_,aq hja⟩;obtain⟨hp0,hp1⟩:=HPOS.out bb (aO hbj);obtain⟨P7,OC,bfin⟩:=bb;simp only at hp0 hp1;have HGL:=V (show NW.getLast?=some j by rw [dG,L9.out];exact hj);obtain⟨go,co,curo,e,-,-,-,hgm,-⟩:=Mw.out.open (by intro e;have:=L9.out;rw [List.map_eq_nil_iff.1 e]at this;simp at this);injection e with e1 e2 e3;subst e1 e3;rw [<- e2]at hgm;clear e2;obtain⟨ga,ca,cura,e,hga1,hga2,hga3,-,-⟩:=KC.out.open (by intro e;rw [e]at hja;simp at hja);injection e with e1 e2 e3;subst e1 e3;clear e2;have o0:=Mw.out.cell fp (i:=m) (j:=0) (x:=(j:Int)) (by rw [cn,hj];rfl) rfl;rw [bj,aK]at o0;have a0:=KC.out.cell jv (i:=j) (j:=0) hbj rfl;have a1:=KC.out.cell jv (i:=j) (j:=1) hbj rfl;have a2:=KC.out.cell jv (i:=j) (j:=2) hbj rfl;rw [aK]at a0;have HBJ:=V hbj;clear hbj hj;have Ko:=V (QB.out (all.set j ⟨P7,OC,k⟩,NW.dropLast) (by
     unfold gb;rw [aC (by rw [HO.out];decide),aC (by simp),HGL.out];simp only;rw [HBJ.out];simp only;rw [aJ trivial]))
    have hall':=KC.out.set jv (i:=j) (j:=2) (x:=⟨P7,OC,bfin⟩) (y:=⟨P7,OC,k⟩) (u:= .int .i64 k) HBJ.out (by omega) rfl;have hopn':=(Mw.out.keeps (iS w3 ga (j*3+2) (.int .i64 k)) (fun i hi h=>dR.ne Mw.out KC.out (by decide) i hi (by rw [show i=ga from h];rfl))).dropLast (by rw [bz,L9.out]) fp;have KF:=hb.setCell (p:=⟨ga,j*3+2,none⟩) hga1 (.int .i64 k);have z:w3.frozen? ⟨ga,j*3+2,none⟩=false:=cZ w3 ga _ cura _ hga3;have NO:=vg (some ⟨go,0,none⟩) m capvo hgm;have HALL':=V hall';have HOPN':=V hopn';clear hall' hopn' hga3;go_wp2_with fail;refine HR.out _ _ ⟨_,_,k+1,all.set j ⟨P7,OC,k⟩,NW.dropLast,rfl,by omega,Ko.out,HALL'.out,?_,KF,by rw [dn,L9.out];omega,fun i hi=>by rw [di];exact KV.out i (List.dropLast_subset _ hi),fun c hc=>?_,by rw [di];omega⟩ ?_
    ·rw [List.map_dropLast]
     exact HOPN'.out
    ·rcases dH hc with h | h
     ·exact HPOS.out c h
     ·rw [h]
      exact⟨by simp only;omega,by simp only;omega⟩
    ·simp [intOf]
     omega
   have f5:=fc q5;have f11:=fc N8;have Ko:=V (QB.out (all,NW) (by unfold gb;rw [if_neg (by rw [HO.out];decide),if_pos ⟨q5,N8⟩]));clear q5 N8;go_wp2_with fail;refine HR.out _ _ ⟨_,_,k+1,all,NW,rfl,by omega,Ko.out,KC.out,Mw.out,hb,by rw [L9.out];exact ho40,KV.out,HPOS.out,by omega⟩ ?_;simp [intOf];omega
section
theorem BL {bits:Int} (hb:bits <=64) (l:List UInt8):iQ (jo bits l).1:=by
 unfold jo;split
 ·exact xJ
 ·split
  ·rename_i h
   have h1:(2:Int)^(bits.toNat - 1) <=2^63:=by
    have:=cQ (n:=2) (by omega) (show bits.toNat - 1 <=63 by omega)
    exact_mod_cast this
   have h2:(2:Int)^63=9223372036854775808:=by decide
   exact⟨by simp only;omega,by simp only;omega⟩
  ·exact xJ
theorem Ir (L:List UInt8) (c:Nat) (s:IR) (hc:c < 256):(IR.get L c s).1.ok:=by
 have hC:iQ (c:Int):=⟨by omega,by omega⟩;have hn:∀n:Nat,n <=4294967295 ->iQ (n:Int):=fun n h=>⟨by omega,by omega⟩;have hu:∀lim s,lim <=4294967295 ->iQ ((IR.jQ L lim s).1:Int):=fun lim s h=>hn _ (aW (IR.Ao L lim s) h);have Pv:∀n∈([]:List Int),iQ n:=by simp
 unfold IR.get;split
 ·refine⟨hC,hn _ ?_,xJ,Pv⟩
  unfold IR.kind;split
  ·simp
  ·split
   ·simp
   ·split <;>simp
 ·exact⟨hC,hu _ _ (by omega),xJ,Pv⟩
 ·refine⟨hC,hu _ _ (by omega),xJ,?_⟩
  generalize(s.jQ L 50).1=k;generalize(s.jQ L 50).2=t;intro n hn;rw [List.mem_map]at hn;obtain⟨m,hm,rfl⟩:=hn
  induction k generalizing t with
  | zero=>simp [IR.lZ]at hm
  | succ k ih=>
   simp only [IR.lZ,bJ]at hm;rcases hm with rfl | hm
   ·exact hu _ _ (by omega)
   ·exact ih _ hm
 ·exact⟨hC,hu _ _ (by omega),xJ,Pv⟩
 ·exact⟨hC,hu _ _ (by omega),hu _ _ (by omega),Pv⟩
 ·exact⟨hC,xJ,xJ,Pv⟩
 ·exact⟨hC,BL (by omega) _,xJ,Pv⟩
 ·exact⟨hC,BL (by omega) _,xJ,Pv⟩
 ·exact⟨hC,xJ,xJ,Pv⟩
theorem get_some {c:UInt8} {l:List UInt8} {x:eK} {s:IR} (hf:fG c.toNat≠0) (hg:IR.get (c::l) c.toNat ⟨1,0⟩=(x,s)) (h:s.err=0):gp (c::l)=some (x,(c::l).drop s.pos):=by
 obtain⟨h1,h2⟩:=IR.rA c l hf;rw [hg]at h1 h2;rw [IR.rest,aJ h]at h1;cases hi:gp (c::l)with
 | none=>rw [hi]at h1;cases h1
 | some y=>
  rw [hi]at h1;injection h1 with h1;have:=h2 y hi;simp only at this;rw [this,h1]
theorem get_none {c:UInt8} {l:List UInt8} {x:eK} {s:IR} (hf:fG c.toNat≠0) (hg:IR.get (c::l) c.toNat ⟨1,0⟩=(x,s)) (h:s.err≠0):gp (c::l)=none:=by
 obtain⟨h1,-⟩:=IR.rA c l hf;rw [hg]at h1;rw [IR.rest,aC h]at h1;cases hi:gp (c::l)with
 | none=>rfl
 | some y=>rw [hi]at h1;cases h1
theorem lA {P:Program} {fn:Func} {t0 u0 u1:Tmp} {ty:TypeId} (h:fn.results=#[.cell t0 ty, .tmp u0, .tmp u1]) (tmps:Array Value) (w:World) {a:Addr} {v:Value} (ht:tmps.getD t0 undef= .pointer (some a))
  (hl:(loadVar ty a).run P w= .ok v w):(results fn tmps).run P w= .ok (.tuple #[v,tmps.getD u0 undef,tmps.getD u1 undef]) w:=by
 have ht':tmps[t0]?.getD undef= .pointer (some a):=by simpa using ht
 simp [results,h,ht',asAddr,hl]
theorem eE.BD {w:World} {X:Nat} {x0 x1 x2:Int} {v:Value} {t:TypeId} (h:eE w X #[.int .i64 x0, .int .i64 x1, .int .i64 x2,v] t):
  (loadVar 27 ⟨X,0,none⟩).run prog w= .ok (.agg #[.int .i64 x0, .int .i64 x1, .int .i64 x2,v]) w:=by
 have hs:(prog.underlying 27).map (fun d=>match d with | .struct _ | .array _ _=>true | _=>false)=some true:=by kernel_rfl
 obtain⟨d,h1,h2⟩:=bB.1 hs;exact bZ w X t 27 _ _ d h h1 (by cases d <;>first | rfl | (exfalso;simp at h2)) (by kernel_rfl)
def Bs (B:Nat) (w:World) (u:Value):Prop:=∀a n cap,u= .slice (some a) n cap ->B <=a.block/\a.block < w.heap.size
def Hq (L:List UInt8) (w:World) (e:Ending) (w':World):Prop:=
 Below w.heap.size w w'/\((∃x r u,gp L=some (x,r)/\e= .returned (.tuple #[.agg #[.int .i64 x.op, .int .i64 x.a, .int .i64 x.b,u], .int .i64 ((L.length - r.length:Nat):Int), .int .i64 0])/\gJ w' x u/\Bs w.heap.size w' u)\/
  (∃err:Int,gp L=none/\err≠0/\(0 <=err/\err <=12)/\e= .returned (.tuple #[.agg #[.int .i64 0, .int .i64 0, .int .i64 0, .slice none 0 0], .int .i64 0, .int .i64 err])))
def vx (w0 w:World) (X2 R X6:Nat) (a:Option Addr) (cap:Nat) (L:List UInt8) (s:IR) (op av bv:Int) (u:Value):Prop:=
 sB w0 w R a cap L s/\eE w X6 #[.int .i64 op, .int .i64 av, .int .i64 bv,u] 27/\eE w X2 #[.int .i64 0, .int .i64 0, .int .i64 0, .slice none 0 0] 27/\w0.heap.size <=X2/\X2 < R/\R < X6
section
variable {w0 w w':World} {X2 R X6:Nat} {a:Option Addr} {cap:Nat} {L:List UInt8} {s s':IR} {op av bv:Int} {u:Value}
theorem vx.read (h:vx w0 w X2 R X6 a cap L s op av bv u) (k:sB w0 w' R a cap L s') (hk:dS (fun k=>k=R) w w'):vx w0 w' X2 R X6 a cap L s' op av bv u:=by
 obtain⟨h1,h2,h3,h4,h5,h6⟩:=h;exact⟨k,h2.keeps hk (by omega),h3.keeps hk (by omega),h4,h5,h6⟩
theorem vx.Bg (h:vx w0 w X2 R X6 a cap L s op av bv u) (n:Int):vx w0 (w.setCell ⟨X6,1,none⟩ (.int .i64 n)) X2 R X6 a cap L s op n bv u:=by
 obtain⟨h1,h2,h3,h4,h5,h6⟩:=h;have hk:=ff w X6 1 (.int .i64 n);exact⟨h1.keeps hk (by omega) (fun i hi=>by omega),by simpa using h2.set 1 (.int .i64 n),h3.keeps hk (by omega),h4,h5,h6⟩
theorem vx.JI (h:vx w0 w X2 R X6 a cap L s op av bv u) (n:Int):vx w0 (w.setCell ⟨X6,2,none⟩ (.int .i64 n)) X2 R X6 a cap L s op av n u:=by
 obtain⟨h1,h2,h3,h4,h5,h6⟩:=h;have hk:=ff w X6 2 (.int .i64 n);exact⟨h1.keeps hk (by omega) (fun i hi=>by omega),by simpa using h2.set 2 (.int .i64 n),h3.keeps hk (by omega),h4,h5,h6⟩
theorem vx.J5 (h:vx w0 w X2 R X6 a cap L s op av bv u) (v:Value):vx w0 (w.setCell ⟨X6,3,none⟩ v) X2 R X6 a cap L s op av bv v:=by
 obtain⟨h1,h2,h3,h4,h5,h6⟩:=h;have hk:=ff w X6 3 v;exact⟨h1.keeps hk (by omega) (fun i hi=>by omega),by simpa using h2.set 3 v,h3.keeps hk (by omega),h4,h5,h6⟩
theorem vx.keeps {S:Nat ->Prop} (h:vx w0 w X2 R X6 a cap L s op av bv u) (hk:dS S w w') (hS:∀i,S i ->X6 < i):vx w0 w' X2 R X6 a cap L s op av bv u:=by
 obtain⟨h1,h2,h3,h4,h5,h6⟩:=h;exact⟨h1.keeps hk (fun g=>by have:=hS _ g;omega) (fun i hi=>by have:=hS _ hi;omega),h2.keeps hk (fun g=>by have:=hS _ g;omega),h3.keeps hk (fun g=>by have:=hS _ g;omega),h4,h5,h6⟩
theorem vx.drew (h:vx w0 w X2 R X6 a cap L s op av bv u):vx w0 w.drew X2 R X6 a cap L s op av bv u:=⟨h.1.drew,h.2.1.drew,h.2.2.1.drew,h.2.2.2⟩
end
theorem ml (w:World) (X:Nat) (y0 y1 y2 y3:Value):dS (fun k=>k=X) w ((((w.setCell ⟨X,0,none⟩ y0).setCell ⟨X,1,none⟩ y1).setCell ⟨X,2,none⟩ y2).setCell ⟨X,3,none⟩ y3):=
 (((ff w X 0 y0).trans (ff _ X 1 y1) (fun _ h=> .inl h)).trans (ff _ X 2 y2) (fun _ h=> .inl h)).trans (ff _ X 3 y3) (fun _ h=> .inl h)
def J2 (w0 w:World) (X2 R X6:Nat) (a:Option Addr) (cap:Nat) (L:List UInt8) (c:Nat) (s1:IR) (n k:Nat) (acc:List Nat) (s:IR) (u:Value):Prop:=
 k <=n/\acc.length=k/\(s1.lZ L n).1=acc++(s.lZ L (n - k)).1/\(s1.lZ L n).2=(s.lZ L (n - k)).2/\vx w0 w X2 R X6 a cap L s c 0 0 u/\dR 3 1 eZ w (X6+1) u (acc.map fun x:Nat=>(x:Int))
def tS (w:World) (X2 R X6:Nat) (a:Option Addr) (cap:Nat) (L:List UInt8) (c:Nat):Act ->World ->Prop:=
 (fun a' w'=>∃(s:IR) (x:eK) (u:Value),a'=fr (gs a' 0 2 (.pointer (some ⟨X2,0,none⟩):: .int .i64 0:: .int .i64 0:: .pointer (some ⟨R,0,none⟩):: .pointer (some ⟨X6,0,none⟩)::gs a' 7 97 []))/\vx w w' X2 R X6 a cap L s x.op x.a x.b u/\(ee 1 eZ w' u x.l/\Bs (X2+1) w' u)/\IR.get L c ⟨1,0⟩=(x,s))
theorem qX (b:Value) (L:List UInt8) (w:World) (hb:eI w b L) (hl:L.length <=1000000):Calls prog 289 #[b] w (Hq L w):=by
 obtain⟨a,cap,rfl,K7,MR,-⟩:=id hb;have HB:=V hb;unfold maxLen at MR;clear hb;go_enter func289,ntmps289;go_wp2_with fail;have hrd0:sB w ((w.alloc (.cells #[.int .i64 0, .int .i64 0, .int .i64 0, .slice none 0 0] 27)).alloc (.cells #[.slice a L.length cap, .int .i64 0, .int .i64 0] 347)) (w.heap.size+1) a cap L ⟨0,0⟩:=by
  have h1:=eE.new (w.alloc (.cells #[.int .i64 0, .int .i64 0, .int .i64 0, .slice none 0 0] 27)) #[.slice a L.length cap, .int .i64 0, .int .i64 0] 347;rw [aE]at h1;exact⟨h1,HB.out,((an _ _).alloc (ag _) _).alloc (by simp) _,by omega,⟨bG _,by decide,by decide⟩⟩
 have NP:=(eE.new w #[.int .i64 0, .int .i64 0, .int .i64 0, .slice none 0 0] 27).alloc (.cells #[.slice a L.length cap, .int .i64 0, .int .i64 0] 347);refine(qo w _ _ a cap L ⟨0,0⟩ hrd0).mono ?_;rintro e w3 ⟨rfl,h1,hk⟩;obtain⟨c,hc⟩:∃c,(IR.byte L ⟨0,0⟩).1=c:=⟨_,rfl⟩;obtain⟨s1,LV⟩:∃s1,(IR.byte L ⟨0,0⟩).2=s1:=⟨_,rfl⟩;rw [hc];rw [LV]at h1;have hx3:=NP.keeps hk (by omega);have NN:w.heap.size+1 < w3.heap.size:=h1.1.lt;have HC:=V hc;have Ms:=V LV;have KQ:=V h1;have K9:=V hx3;clear h1 hk NP hx3 hrd0 hc LV;go_wp2_with fail;refine(tc c _).mono ?_;rintro e w5 ⟨rfl,Lm⟩;have hg:vx w w5 w.heap.size (w.heap.size+1) w3.heap.size a cap L s1 c 0 0 (.slice none 0 0):=by
  have LQ:Below w3.heap.size w3 w5:=((an _ _).alloc (ag _) _).trans (Lm.mono (by simp));exact⟨KQ.out.keeps (dS.dV (S:=fun _=>False) LQ) (fun h=>h) (fun _ h=>h.elim),(eE.new w3 _ _).below Lm (by simp),K9.out.below LQ K9.out.lt,ag _,by omega,NN⟩
 have HG:=V hg;clear hg Lm K9 KQ NN;generalize w.heap.size+1=R at HG⊢;generalize w.heap.size=X2 at HG⊢;generalize w3.heap.size=X6 at HG⊢;have QD:L=[]\/∃c0 l,L=c0::l:=by cases L with | nil=>exact .inl rfl | cons c0 l=>exact .inr ⟨c0,l,rfl⟩
 rcases QD with hL | ⟨c0,l,hL⟩
 ·have h1:s1=⟨0,2⟩:=by rw [<- Ms.out,hL];rfl
  have h2:c=0:=by rw [<- HC.out,hL];rfl
  subst h1 h2;have HN:=V (show gp L=none by rw [hL];rfl);have QE:=V (show(2:Int)≠0 by decide);have hf0:fG ((0:Nat):Int)=1:=by decide
  rw [hf0];clear hf0 hL Ms HC;obtain⟨LR,-,MU,Mx,hoo2,hoo3⟩:=HG.out;obtain⟨⟨x0,x1,x2,x3⟩,g0,g1,g2,g3⟩:=MU.four;have d2:(w5).cell? ⟨R,2,none⟩=some (.int .i64 (IR.err ⟨0,2⟩)):=LR.1.cell 2;have L7:=ml (w5).drew X2 (.int .i64 0) (.int .i64 0) (.int .i64 0) (.slice none 0 0);have P8:=(LR.1.drew.keeps L7 (by omega)).cell 2;have HX:=V (MU.drew.rS (.int .i64 0) (.int .i64 0) (.int .i64 0) (.slice none 0 0));have O1:=V P8;have KW:=V (((((LR.2.2.1.drew).setCell (p:=⟨X2,0,none⟩) Mx (.int .i64 0)).setCell (p:=⟨X2,1,none⟩) Mx (.int .i64 0)).setCell (p:=⟨X2,2,none⟩) Mx (.int .i64 0)).setCell (p:=⟨X2,3,none⟩) Mx (.slice none 0 0));clear LR MU L7 P8
  go_upto_region 7 with fail
  refine ed (fun w'=>w'.cell? ⟨R,2,none⟩=some (.int .i64 (IR.err ⟨0,2⟩))) (up 0 5 ((5,false)::(6,true)::(7,true)::[])) (by kernel_rfl) (by kernel_rfl) d2 ?_;iterate 5 (first | (apply sk rfl rfl;simp only [pt]) | (apply dT rfl rfl rfl;·(rintro w' t0;go_wp2;exact⟨rfl,rfl,rfl⟩)))
  refine dZ rfl rfl ?_;go_wp2_with fail;refine⟨O1.out,?_⟩;iterate 2 (first | (apply sk rfl rfl;simp only [pt]) | (apply dT rfl rfl rfl;·(rintro w' t0;go_wp2;exact⟨rfl,rfl,rfl⟩)))
  refine eH ?_;refine aD ?_;go_wp2_with fail;refine aN (lA rfl _ _ rfl HX.out.BD) rfl ?_;exact⟨KW.out, .inr ⟨_,HN.out,QE.out,HG.out.1.2.2.2.2.2,rfl⟩⟩
 ·have h1:s1=⟨1,0⟩:=by rw [<- Ms.out,hL];rfl
  have h2:c=c0.toNat:=by rw [<- HC.out,hL];rfl
  subst h1 h2;have Ni:c0.toNat < 256:=c0.toNat_lt;obtain⟨f,hf⟩:∃f,fG (c0.toNat:Int)=f:=⟨_,rfl⟩;have Qx:f <=9:=by rw [<- hf];exact nM _
  rw [hf];by_cases hz:f=0
  ·subst hz
   have HN:=V (show gp L=none by rw [hL];unfold gp;dsimp only;rw [hf];rfl);have QE:=V (show(1:Int)≠0 by decide);have KI:=HG.out.read (HG.out.1.set (s':=⟨1,1⟩) (i:=2) (v:= .int .i64 1) rfl ⟨by rw [hL];simp,by decide,by decide⟩) (ff w5 R 2 _);have z2:=HG.out.1.1.free 2;have d2:w5.cell? ⟨R,2,none⟩=some (.int .i64 0):=HG.out.1.1.cell 2;clear hf Ms HC Qx hL HG
   go_upto_region 6 with fail
   generalize w5.setCell ⟨R,2,none⟩ (.int .i64 1)=w6 at KI⊢;have HG:=V KI;clear KI z2 d2;obtain⟨LR,-,MU,Mx,hoo2,hoo3⟩:=HG.out;obtain⟨⟨x0,x1,x2,x3⟩,g0,g1,g2,g3⟩:=MU.four;have d2:(w6).cell? ⟨R,2,none⟩=some (.int .i64 (IR.err ⟨1,1⟩)):=LR.1.cell 2;have L7:=ml (w6).drew X2 (.int .i64 0) (.int .i64 0) (.int .i64 0) (.slice none 0 0);have P8:=(LR.1.drew.keeps L7 (by omega)).cell 2;have HX:=V (MU.drew.rS (.int .i64 0) (.int .i64 0) (.int .i64 0) (.slice none 0 0));have O1:=V P8;have KW:=V (((((LR.2.2.1.drew).setCell (p:=⟨X2,0,none⟩) Mx (.int .i64 0)).setCell (p:=⟨X2,1,none⟩) Mx (.int .i64 0)).setCell (p:=⟨X2,2,none⟩) Mx (.int .i64 0)).setCell (p:=⟨X2,3,none⟩) Mx (.slice none 0 0));clear LR MU L7 P8
   go_upto_region 7 with fail
   refine ed (fun w'=>w'.cell? ⟨R,2,none⟩=some (.int .i64 (IR.err ⟨1,1⟩))) (up 0 5 ((5,false)::(6,true)::(7,true)::[])) (by kernel_rfl) (by kernel_rfl) d2 ?_;iterate 5 (first | (apply sk rfl rfl;simp only [pt]) | (apply dT rfl rfl rfl;·(rintro w' t0;go_wp2;exact⟨rfl,rfl,rfl⟩)))
   refine dZ rfl rfl ?_;go_wp2_with fail;refine⟨O1.out,?_⟩;iterate 2 (first | (apply sk rfl rfl;simp only [pt]) | (apply dT rfl rfl rfl;·(rintro w' t0;go_wp2;exact⟨rfl,rfl,rfl⟩)))
   refine eH ?_;refine aD ?_;go_wp2_with fail;refine aN (lA rfl _ _ rfl HX.out.BD) rfl ?_;exact⟨KW.out, .inr ⟨_,HN.out,QE.out,HG.out.1.2.2.2.2.2,rfl⟩⟩
  have HF:=V hf;have HL:=V hL;have HF9:=V Qx;have Mf:((f:Int)==0)=false:=dQ (by omega);clear hf Ms HC hL Qx;obtain⟨LR,hb6x,MU,-,hoo2,hoo3⟩:=HG.out;obtain⟨⟨e0,e1,e2,e3⟩,-,y1,y2,y3⟩:=hb6x.four;have d1:(w5).cell? ⟨R,1,none⟩=some (.int .i64 (IR.pos ⟨1,0⟩)):=LR.1.cell 1;have d2:(w5).cell? ⟨R,2,none⟩=some (.int .i64 (IR.err ⟨1,0⟩)):=LR.1.cell 2;have z2:=LR.1.free 2;clear LR hb6x MU
  go_upto_region 9 with fail
  rename_i K1 h1 K2 h2;have HK:Hid (∀a' w',tS w X2 R X6 a cap L c0.toNat a' w' ->K1 a' w'):=V (by
   clear h2 Mf d1 d2 z2 e0 e1 e2 e3 y1 y2 y3;rintro a' w7 h;unfold tS at h;obtain⟨s,x,u,Kk,hg,⟨hu,hfu⟩,hget⟩:=h;dsimp only [fr,gs]at Kk;generalize slot a'=g at Kk;subst Kk;apply h1;clear h1;have Kt:=Ir L c0.toNat ⟨1,0⟩ Ni;rw [hget]at Kt;obtain⟨xo,xa,xb,xl⟩:=x;simp only at hu hg Kt;have HGT:=V hget;have Lu:=V Kt;have HU:=V hu;have HFU:=V hfu;have HG:=V hg;have OD:=V (show fG c0.toNat≠0 by rw [HF.out];exact hz);have hn:∀s':IR,s'=s ->s'.err≠0 ->gp L=none:=fun s' e h=>by rw [HL.out];exact get_none OD.out (by rw [<- HL.out,HGT.out]) (by rw [<- e];exact h)
   have Nt:s.err=0 ->gp L=some (⟨xo,xa,xb,xl⟩,L.drop s.pos):=fun h=>by rw [HL.out];exact get_some OD.out (by rw [<- HL.out,HGT.out]) h
   have HNN:=V hn;have HSM:=V Nt;clear Kt hget hu hfu hg hn Nt;by_cases q:s.err=0;rotate_left
   ·have f1:=fc q
    have HN:=V (HNN.out s rfl q);have QE:=V q;clear q;obtain⟨LR,-,MU,Mx,hoo2,hoo3⟩:=HG.out;obtain⟨⟨x0,x1,x2,x3⟩,g0,g1,g2,g3⟩:=MU.four;have d2:(w7).cell? ⟨R,2,none⟩=some (.int .i64 (IR.err s)):=LR.1.cell 2;have L7:=ml (w7).drew X2 (.int .i64 0) (.int .i64 0) (.int .i64 0) (.slice none 0 0);have P8:=(LR.1.drew.keeps L7 (by omega)).cell 2;have HX:=V (MU.drew.rS (.int .i64 0) (.int .i64 0) (.int .i64 0) (.slice none 0 0));have O1:=V P8;have KW:=V (((((LR.2.2.1.drew).setCell (p:=⟨X2,0,none⟩) Mx (.int .i64 0)).setCell (p:=⟨X2,1,none⟩) Mx (.int .i64 0)).setCell (p:=⟨X2,2,none⟩) Mx (.int .i64 0)).setCell (p:=⟨X2,3,none⟩) Mx (.slice none 0 0));clear LR MU L7 P8
    go_upto_region 32 with fail
    refine ed (fun w'=>w'.cell? ⟨R,2,none⟩=some (.int .i64 (IR.err s))) (up 0 5 ((5,false)::(6,true)::(7,true)::[])) (by kernel_rfl) (by kernel_rfl) d2 ?_;iterate 5 (first | (apply sk rfl rfl;simp only [pt]) | (apply dT rfl rfl rfl;·(rintro w' t0;go_wp2;exact⟨rfl,rfl,rfl⟩)))
    refine dZ rfl rfl ?_;go_wp2_with fail;refine⟨O1.out,?_⟩;iterate 2 (first | (apply sk rfl rfl;simp only [pt]) | (apply dT rfl rfl rfl;·(rintro w' t0;go_wp2;exact⟨rfl,rfl,rfl⟩)))
    refine eH ?_;refine aD ?_;go_wp2_with fail;refine aN (lA rfl _ _ rfl HX.out.BD) rfl ?_;exact⟨KW.out, .inr ⟨_,HN.out,QE.out,HG.out.1.2.2.2.2.2,rfl⟩⟩
   ·have HI:=V (HSM.out q)
    have d2:w7.cell? ⟨R,2,none⟩=some (.int .i64 0):=by rw [<- q];exact HG.out.1.1.cell 2
    obtain⟨au,Kr,rfl,-,-,-⟩:=id HU.out;clear q HNN HSM;obtain⟨LR,hb6x,MU,Mx,hoo2,hoo3⟩:=HG.out;obtain⟨⟨x0,x1,x2,x3⟩,g0,g1,g2,g3⟩:=MU.four;have d1:w7.cell? ⟨R,1,none⟩=some (.int .i64 s.pos):=LR.1.cell 1;obtain⟨⟨l0,l1,l2,l3⟩,-⟩:=hb6x.four;have L7:=ml w7.drew X2 (.int .i64 xo) (.int .i64 xa) (.int .i64 xb) (.slice au xl.length Kr);have HD1:=V ((LR.1.drew.keeps L7 (by omega)).cell 1);have HL6:=V (hb6x.drew.keeps L7 (by omega)).four.1;have HX:=V (MU.drew.rS (.int .i64 xo) (.int .i64 xa) (.int .i64 xb) (.slice au xl.length Kr));have KW:=V (((((LR.2.2.1.drew).setCell (p:=⟨X2,0,none⟩) Mx (.int .i64 xo)).setCell (p:=⟨X2,1,none⟩) Mx (.int .i64 xa)).setCell (p:=⟨X2,2,none⟩) Mx (.int .i64 xb)).setCell (p:=⟨X2,3,none⟩) Mx (.slice au xl.length Kr));have hu9:=HU.out.keeps L7.Ak (fun b n c e h=>by have:=(HFU.out b n c e).1;have h':b.block=X2:=h;omega);have Qx:Bs w.heap.size ((((w7.drew.setCell ⟨X2,0,none⟩ (.int .i64 xo)).setCell ⟨X2,1,none⟩ (.int .i64 xa)).setCell ⟨X2,2,none⟩ (.int .i64 xb)).setCell ⟨X2,3,none⟩ (.slice au xl.length Kr)) (.slice au xl.length Kr):=fun b n c e=>by
     obtain⟨k1,k2⟩:=HFU.out b n c e;exact⟨by omega,by simpa using k2⟩
    have HU9:=V hu9;have HF9':=V Qx;have hpl:s.pos <=L.length:=LR.2.2.2.2.1;have HPL:=V hpl;clear LR hb6x MU L7 hu9 Qx hpl
    go_upto_region 33 with fail
    refine ed (fun w'=>w'.cell? ⟨R,1,none⟩=some (.int .i64 s.pos)/\w'.cell? ⟨X6,0,none⟩=some (.int .i64 xo)/\w'.cell? ⟨X6,1,none⟩=some (.int .i64 xa)/\w'.cell? ⟨X6,2,none⟩=some (.int .i64 xb)/\w'.cell? ⟨X6,3,none⟩=some (.slice au xl.length Kr)) (up 0 5 ((5,false)::(6,true)::(7,true)::[])) (by kernel_rfl) (by kernel_rfl) ⟨d1,l0,l1,l2,l3⟩ ?_;iterate 5 (first | (apply sk rfl rfl;simp only [pt]) | (apply dT rfl rfl rfl;·(rintro w' ⟨t0,t1,t2,t3,t4⟩;go_wp2;exact⟨rfl,rfl,rfl⟩)))
    refine dZ rfl rfl ?_;go_wp2_with fail;refine⟨⟨HD1.out,HL6.out⟩,?_⟩;iterate 2 (first | (apply sk rfl rfl;simp only [pt]) | (apply dT rfl rfl rfl;·(rintro w' ⟨t0,t1,t2,t3,t4⟩;go_wp2;exact⟨rfl,rfl,rfl⟩)))
    refine eH ?_;refine aD ?_;go_wp2_with fail;refine aN (lA rfl _ _ rfl HX.out.BD) rfl ?_;refine⟨KW.out, .inl ⟨_,_,_,HI.out,?_,⟨HU9.out,Lu.out⟩,HF9'.out⟩⟩;have e:((L.length - (L.drop s.pos).length:Nat):Int)=s.pos:=by
     rw [bm];have:=HPL.out;omega
    rw [e];rfl
   )
  clear h1 d1 d2 z2;have Lx:=HK;clear HK;rcases(show f=1\/f=2\/f=3\/f=4\/f=5\/f=6\/f=7\/f=8\/f=9 by have:=HF9.out;omega)with rfl | rfl | rfl | rfl | rfl | rfl | rfl | rfl | rfl
  ·clear hz Mf e1 e2 e3 y1 y2 y3 K7 MR Ni
   have HI:=V (show IR.get L c0.toNat ⟨1,0⟩=(⟨c0.toNat,0,0,[]⟩,⟨1,0⟩)by unfold IR.get;rw [HF.out];rfl);go_wp2_with fail;refine Lx.out _ _ ?_;unfold tS;exact⟨_,_,_,rfl,HG.out,⟨ee.nil _,fun _ _ _ h=>by cases h⟩,HI.out⟩
  ·skip
   clear hz Mf K7 MR Ni;have HI:=V (show IR.get L c0.toNat ⟨1,0⟩=(⟨c0.toNat,(IR.kind L ⟨1,0⟩).1,0,[]⟩,(IR.kind L ⟨1,0⟩).2)by unfold IR.get;rw [HF.out];rfl);go_wp2_with fail;refine(AI w w5 R a cap L ⟨1,0⟩ HG.out.1).mono ?_;rintro e w8 ⟨rfl,hr,hk⟩;have Nu:=V (HG.out.read hr hk);obtain⟨⟨e0',e1',e2',e3'⟩,-,y1',y2',y3'⟩:=Nu.out.2.1.four;clear hr hk e0 e1 e2 e3 y1 y2 y3;go_wp2_with fail;refine Lx.out _ _ ?_;unfold tS;exact⟨_,⟨_,_,_,_⟩,_,rfl,Nu.out.Bg _,⟨ee.nil _,fun _ _ _ h=>by cases h⟩,HI.out⟩
  ·skip
   clear hz Mf K7 MR Ni;have HI:=V (show IR.get L c0.toNat ⟨1,0⟩=(⟨c0.toNat,(IR.jQ L 1000 ⟨1,0⟩).1,0,[]⟩,(IR.jQ L 1000 ⟨1,0⟩).2)by unfold IR.get;rw [HF.out];rfl);go_wp2_with fail;refine(ll w w5 R a cap L ⟨1,0⟩ HG.out.1 1000).mono ?_;rintro e w8 ⟨rfl,hr,hk⟩;have Nu:=V (HG.out.read hr hk);obtain⟨⟨e0',e1',e2',e3'⟩,-,y1',y2',y3'⟩:=Nu.out.2.1.four;clear hr hk e0 e1 e2 e3 y1 y2 y3;go_wp2_with fail;refine Lx.out _ _ ?_;unfold tS;exact⟨_,⟨_,_,_,_⟩,_,rfl,Nu.out.Bg _,⟨ee.nil _,fun _ _ _ h=>by cases h⟩,HI.out⟩
  ·skip
   clear hz Mf K7 MR Ni;obtain⟨n,hn⟩:∃n,(IR.jQ L 50 ⟨1,0⟩).1=n:=⟨_,rfl⟩;obtain⟨s1,LV⟩:∃s1,(IR.jQ L 50 ⟨1,0⟩).2=s1:=⟨_,rfl⟩;have hn50:n <=50:=by rw [<- hn];exact IR.Ao L 50 _
   have HI:=V (show IR.get L c0.toNat ⟨1,0⟩=(⟨c0.toNat,((s1.lZ L n).2.jQ L 1000).1,0,(s1.lZ L n).1.map fun x:Nat=>(x:Int)⟩,((s1.lZ L n).2.jQ L 1000).2)by unfold IR.get;rw [HF.out];rw [<- hn, <- LV];rfl);have HN:=V hn;have Ms:=V LV;clear hn LV;go_wp2_with fail;refine(ll w w5 R a cap L ⟨1,0⟩ HG.out.1 50).mono ?_;rintro e w8 ⟨rfl,hr,hk⟩;have hg8:=HG.out.read hr hk;rw [HN.out];rw [Ms.out]at hg8;have Nu:=V hg8;clear hr hk hg8 e0 e1 e2 e3 y1 y2 y3;go_wp2_with fail;refine ez (fun a' w'=>∃(k:Nat) (acc:List Nat) (s:IR) (u:Value),a'=fr (gs a' 0 2 (.pointer (some ⟨X2,0,none⟩):: .int .i64 0:: .int .i64 0:: .pointer (some ⟨R,0,none⟩):: .pointer (some ⟨X6,0,none⟩)::gs a' 7 46 (.int .i64 n:: .int .i64 k::gs a' 55 49 [])))/\J2 w w' X2 R X6 a cap L c0.toNat s1 n k acc s u) (fun a' _=>(n - (intOf (a'.tmps.getD 54 undef)).toNat)) ?_ ?_
   ·exact⟨0,[],s1,_,rfl,by omega,rfl,rfl,rfl,Nu.out,dR.nil _ _⟩
   ·skip
    rintro RR a' w1 ⟨k,acc,s,u,Kk,hJ⟩ HR;dsimp only [fr,gs]at Kk;generalize slot a'=f at Kk;subst Kk;obtain⟨hk,rfl,P5,hl2,hg,ho⟩:=hJ;obtain⟨au,Kr,hu,_,Mr,-⟩:=ho.fD fp;rw [bz]at hu;subst hu;unfold maxLen at Mr;have HGK:=V hg;have HO:=V ho;have PX:=V P5;have PQ:=V hl2;clear P5 hl2 hg ho;by_cases q:acc.length < n
    ·have c3:w1.cell? ⟨X6,3,none⟩=some (.slice au acc.length Kr):=HGK.out.2.1.cell 3
     go_wp2_with fail;refine eP (fun w'=>w'.cell? ⟨X6,3,none⟩=some (.slice au acc.length Kr)) 7
      (up 0 3 ((3,false)::(4,false)::(5,false)::(6,true)::[])) (by kernel_rfl) (by kernel_rfl) c3 ?_
     clear c3;iterate 3 (first | (apply sk rfl rfl;simp only [pt]) | (apply dT rfl rfl rfl;·(rintro w' t0;go_wp2;exact⟨rfl,rfl,rfl⟩)))
     refine dZ rfl rfl ?_;go_wp2_with fail;refine(ll w w1.drew R a cap L s HGK.out.1.drew 1000).mono ?_;rintro e w8 ⟨rfl,hr,MN⟩;obtain⟨m,hm⟩:∃m,(IR.jQ L 1000 s).1=m:=⟨_,rfl⟩;obtain⟨s2,Ku⟩:∃s2,(IR.jQ L 1000 s).2=s2:=⟨_,rfl⟩;rw [hm];rw [Ku]at hr;have hm1:m <=1000:=by rw [<- hm];exact IR.Ao L 1000 s
     have HM:=V hm;have KP:=V Ku;have hg8:=HGK.out.drew.read hr MN;have hk18:=MN.Ak;have ho8:=HO.out.keeps hk18 (fun i hi h=>by have:=(eo HO.out hi).1;have h':i=R:=h;omega);have Nu:=V hg8;clear hm Ku hr MN hk18 hg8;go_wp2_with fail;refine⟨Nu.out.2.1.cell 3,?_⟩;refine dZ rfl rfl ?_;go_wp2_with fail;refine⟨(Nu.out.2.1.alloc _).cell 3,?_⟩;refine dZ rfl rfl ?_;refine eQ w8 rfl _ _ 25 rfl _ 8 (by kernel_rfl) (show(prog.info? 3).map (fun i=>(i.zero,i.size,i.bytes))=some (some (.int .i64 0),1,8)by kernel_rfl) rfl (by decide) (by decide) (X6+1) (.slice au acc.length Kr) (acc.map fun x:Nat=>(x:Int)) rfl ho8 (m:Int) _ rfl rfl (by simp [eZ,Value.oneCell']) rfl (by rw [bz];omega) (by have:=Nu.out.2.1.lt;omega) ?_;intro v10 w10 OB OS hs10;have Ki:∀i,ey (.slice au acc.length Kr) i ->X6+1 <=i:=fun i hi=>(eo ho8 hi).1;have hg10:=Nu.out.keeps OS (fun i hi=>by have:=Ki i hi;omega);generalize hA:acc.map (fun x:Nat=>(x:Int))++[(m:Int)]=Nn at OB;have HA:=V hA;obtain⟨a9,cap9,rfl,-,-⟩:=OB.fD fp;have c3:w10.cell? ⟨X6,3,none⟩=some (.slice au acc.length Kr):=hg10.2.1.cell 3;have y3:=hg10.2.1.free 3;have HG11:=V (hg10.J5 (.slice a9 Nn.length cap9));have HK11:=V (ff w10 X6 3 (.slice a9 Nn.length cap9));have HO10:=V OB;clear OS hs10 Ki hg10 ho8 Nu OB hA;go_wp2_with fail;refine⟨c3,?_⟩;iterate 1 (first | (apply sk rfl rfl;simp only [pt]) | (apply dT rfl rfl rfl;·(rintro w' t0;go_wp2;exact⟨rfl,rfl,rfl⟩)))
     refine fI rfl rfl ?_;go_wp2_with fail;refine⟨trivial,?_⟩;refine aD ?_;go_wp2_with fail;refine HR.out _ _ ⟨acc.length+1,acc++[m],s2, .slice a9 Nn.length cap9,rfl,?_⟩ ?_
     ·have e1:n - acc.length=(n - (acc.length+1))+1:=by omega
      refine⟨by omega,by rw [ah];rfl,?_,?_,HG11.out,?_⟩
      ·rw [PX.out,e1,IR.lZ,HM.out,KP.out,aP]
       rfl
      ·rw [PQ.out,e1,IR.lZ,KP.out]
      ·rw [cg,List.map_singleton,HA.out]
       exact HO10.out.keeps HK11.out (fun i hi h=>by have:=(eo HO10.out hi).1;have h':i=X6:=h;omega)
     ·simp [intOf]
      omega
    ·obtain rfl:n=acc.length:=by omega
     have hL:(s1.lZ L acc.length)=(acc,s):=by
      rw [Prod.ext_iff];refine⟨?_,?_⟩
      ·rw [PX.out,Nat.sub_self,IR.lZ]
       simp
      ·rw [PQ.out,Nat.sub_self,IR.lZ]
     replace HI:=V (show IR.get L c0.toNat ⟨1,0⟩=(⟨c0.toNat,(s.jQ L 1000).1,0,acc.map fun x:Nat=>(x:Int)⟩,(s.jQ L 1000).2)by rw [HI.out,hL]);clear hL PX PQ hk;go_wp2_with fail;refine(ll w w1 R a cap L s HGK.out.1 1000).mono ?_;rintro e w8 ⟨rfl,hr,MN⟩;have Nu:=V (HGK.out.read hr MN);have ho8:=HO.out.keeps MN (fun i hi h=>by have:=(eo HO.out hi).1;have h':i=R:=h;omega);obtain⟨⟨e0,e1,e2,e3⟩,-,y1,y2,y3⟩:=Nu.out.2.1.four;have ho9:=ho8.keeps (ff w8 X6 1 (.int .i64 (s.jQ L 1000).1)) (fun i hi h=>by have:=(eo ho8 hi).1;have h':i=X6:=h;omega);have HO9:=V ho9;clear hr MN ho8 ho9;go_wp2_with fail;refine Lx.out _ _ ?_;unfold tS;refine⟨_,⟨_,_,_,_⟩,_,rfl,Nu.out.Bg _,⟨HO9.out.fD fp,fun b n c e=>?_⟩,HI.out⟩;have:=HO9.out.block b n c e;exact⟨by omega,this.2⟩
  ·skip
   clear hz Mf K7 MR Ni;have HI:=V (show IR.get L c0.toNat ⟨1,0⟩=(⟨c0.toNat,(IR.jQ L 1000 ⟨1,0⟩).1,0,[]⟩,(IR.jQ L 1000 ⟨1,0⟩).2.zero L)by unfold IR.get;rw [HF.out];rfl);go_wp2_with fail;refine(ll w w5 R a cap L ⟨1,0⟩ HG.out.1 1000).mono ?_;rintro e w8 ⟨rfl,hr,hk⟩;have Nu:=V (HG.out.read hr hk);obtain⟨⟨e0',e1',e2',e3'⟩,-,y1',y2',y3'⟩:=Nu.out.2.1.four;clear hr hk e0 e1 e2 e3 y1 y2 y3;have hg9:=Nu.out.Bg (IR.jQ L 1000 ⟨1,0⟩).1;go_wp2_with fail;generalize(w8.setCell ⟨X6,1,none⟩ (.int .i64 (IR.jQ L 1000 ⟨1,0⟩).1))=w9 at hg9⊢;refine(tq w w9 R a cap L _ hg9.1).mono ?_;rintro e w10 ⟨rfl,hr,hk⟩;have HG10:=V (hg9.read hr hk);clear hr hk hg9 e0' e1' e2' e3' y1' y2' y3';go_wp2_with fail;refine Lx.out _ _ ?_;unfold tS;exact⟨_,⟨_,_,_,_⟩,_,rfl,HG10.out,⟨ee.nil _,fun _ _ _ h=>by cases h⟩,HI.out⟩
  ·skip
   clear hz Mf K7 MR Ni;have HI:=V (show IR.get L c0.toNat ⟨1,0⟩=(⟨c0.toNat,(IR.jQ L 3 ⟨1,0⟩).1,((IR.jQ L 3 ⟨1,0⟩).2.jQ L 4294967295).1,[]⟩,((IR.jQ L 3 ⟨1,0⟩).2.jQ L 4294967295).2)by unfold IR.get;rw [HF.out];rfl);go_wp2_with fail;refine(ll w w5 R a cap L ⟨1,0⟩ HG.out.1 3).mono ?_;rintro e w8 ⟨rfl,hr,hk⟩;have Nu:=V (HG.out.read hr hk);obtain⟨⟨e0',e1',e2',e3'⟩,-,y1',y2',y3'⟩:=Nu.out.2.1.four;clear hr hk e0 e1 e2 e3 y1 y2 y3;have hg9:=Nu.out.Bg (IR.jQ L 3 ⟨1,0⟩).1;go_wp2_with fail;generalize(w8.setCell ⟨X6,1,none⟩ (.int .i64 (IR.jQ L 3 ⟨1,0⟩).1))=w9 at hg9⊢;refine(ll w w9 R a cap L _ hg9.1 4294967295).mono ?_;rintro e w10 ⟨rfl,hr,hk⟩;have HG10:=V (hg9.read hr hk);obtain⟨⟨e0,e1,e2,e3⟩,-,y1,y2,y3⟩:=HG10.out.2.1.four;clear hr hk hg9 e0' e1' e2' e3' y1' y2' y3';go_wp2_with fail;refine Lx.out _ _ ?_;unfold tS;exact⟨_,⟨_,_,_,_⟩,_,rfl,HG10.out.JI _,⟨ee.nil _,fun _ _ _ h=>by cases h⟩,HI.out⟩
  ·skip
   clear hz Mf K7 MR Ni;have HI:=V (show IR.get L c0.toNat ⟨1,0⟩=(⟨c0.toNat,0,0,[]⟩,IR.zero L ⟨1,0⟩)by unfold IR.get;rw [HF.out];rfl);go_wp2_with fail;refine(tq w w5 R a cap L ⟨1,0⟩ HG.out.1).mono ?_;rintro e w8 ⟨rfl,hr,hk⟩;have Nu:=V (HG.out.read hr hk);clear hr hk e0 e1 e2 e3 y1 y2 y3;go_wp2_with fail;refine Lx.out _ _ ?_;unfold tS;exact⟨_,⟨_,_,_,_⟩,_,rfl,Nu.out,⟨ee.nil _,fun _ _ _ h=>by cases h⟩,HI.out⟩
  ·skip
   clear hz Mf K7 MR Ni;have HI:=V (show IR.get L c0.toNat ⟨1,0⟩=(⟨c0.toNat,(IR.pW L 32 ⟨1,0⟩).1,0,[]⟩,(IR.pW L 32 ⟨1,0⟩).2)by unfold IR.get;rw [HF.out];rfl);go_wp2_with fail;refine(vE w w5 R a cap L ⟨1,0⟩ HG.out.1 rfl 32 (by decide) (by decide)).mono ?_;rintro e w8 ⟨rfl,hr,hk⟩;have Nu:=V (HG.out.read hr hk);obtain⟨⟨e0',e1',e2',e3'⟩,-,y1',y2',y3'⟩:=Nu.out.2.1.four;clear hr hk e0 e1 e2 e3 y1 y2 y3;go_wp2_with fail;refine Lx.out _ _ ?_;unfold tS;exact⟨_,⟨_,_,_,_⟩,_,rfl,Nu.out.Bg _,⟨ee.nil _,fun _ _ _ h=>by cases h⟩,HI.out⟩
  ·skip
   clear hz Mf K7 MR Ni;have HI:=V (show IR.get L c0.toNat ⟨1,0⟩=(⟨c0.toNat,(IR.pW L 64 ⟨1,0⟩).1,0,[]⟩,(IR.pW L 64 ⟨1,0⟩).2)by unfold IR.get;rw [HF.out];rfl);go_wp2_with fail;refine(vE w w5 R a cap L ⟨1,0⟩ HG.out.1 rfl 64 (by decide) (by decide)).mono ?_;rintro e w8 ⟨rfl,hr,hk⟩;have Nu:=V (HG.out.read hr hk);obtain⟨⟨e0',e1',e2',e3'⟩,-,y1',y2',y3'⟩:=Nu.out.2.1.four;clear hr hk e0 e1 e2 e3 y1 y2 y3;go_wp2_with fail;refine Lx.out _ _ ?_;unfold tS;exact⟨_,⟨_,_,_,_⟩,_,rfl,Nu.out.Bg _,⟨ee.nil _,fun _ _ _ h=>by cases h⟩,HI.out⟩
end
section
section
variable {w:World} {X:Nat} {t:TypeId}
theorem eE.ma {k n:Int} (h:eE w X #[.int .i64 k, .int .i64 n] t):(loadVar 42 ⟨X,0,none⟩).run prog w= .ok (.agg #[.int .i64 k, .int .i64 n]) w:=by
 have hs:(prog.underlying 42).map (fun d=>match d with | .struct _ | .array _ _=>true | _=>false)=some true:=by kernel_rfl
 obtain⟨d,h1,h2⟩:=bB.1 hs;exact bZ w X t 42 _ _ d h h1 (by cases d <;>first | rfl | (exfalso;simp at h2)) (by kernel_rfl)
theorem eE.pw {b:Bool} {k n:Int} (h:eE w X #[.bool b, .int .i64 k, .int .i64 n] t):(loadVar 55 ⟨X,0,none⟩).run prog w= .ok (.agg #[.bool b, .int .i64 k, .int .i64 n]) w:=by
 have hs:(prog.underlying 55).map (fun d=>match d with | .struct _ | .array _ _=>true | _=>false)=some true:=by kernel_rfl
 obtain⟨d,h1,h2⟩:=bB.1 hs;exact bZ w X t 55 _ _ d h h1 (by cases d <;>first | rfl | (exfalso;simp at h2)) (by kernel_rfl)
theorem eE.kN {u v:Value} (h:eE w X #[u,v] t):(loadVar 109 ⟨X,0,none⟩).run prog w= .ok (.agg #[u,v]) w:=by
 have hs:(prog.underlying 109).map (fun d=>match d with | .struct _ | .array _ _=>true | _=>false)=some true:=by kernel_rfl
 obtain⟨d,h1,h2⟩:=bB.1 hs;exact bZ w X t 109 _ _ d h h1 (by cases d <;>first | rfl | (exfalso;simp at h2)) (by kernel_rfl)
theorem eE.Gt {a b:ByteArray} {n:Int} (h:eE w X #[.string a, .string b, .int .i64 n] t):(loadVar 118 ⟨X,0,none⟩).run prog w= .ok (.agg #[.string a, .string b, .int .i64 n]) w:=by
 have hs:(prog.underlying 118).map (fun d=>match d with | .struct _ | .array _ _=>true | _=>false)=some true:=by kernel_rfl
 obtain⟨d,h1,h2⟩:=bB.1 hs;exact bZ w X t 118 _ _ d h h1 (by cases d <;>first | rfl | (exfalso;simp at h2)) (by kernel_rfl)
theorem eE.Es {b:Bool} {k n:Int} (h:eE w X #[.bool b, .int .i64 k, .int .i64 n] t):(loadVar 120 ⟨X,0,none⟩).run prog w= .ok (.agg #[.bool b, .int .i64 k, .int .i64 n]) w:=by
 have hs:(prog.underlying 120).map (fun d=>match d with | .struct _ | .array _ _=>true | _=>false)=some true:=by kernel_rfl
 obtain⟨d,h1,h2⟩:=bB.1 hs;exact bZ w X t 120 _ _ d h h1 (by cases d <;>first | rfl | (exfalso;simp at h2)) (by kernel_rfl)
theorem eE.Hm {a:ByteArray} {n:Int} (h:eE w X #[.string a, .int .i64 n] t):(loadVar 111 ⟨X,0,none⟩).run prog w= .ok (.agg #[.string a, .int .i64 n]) w:=by
 have hs:(prog.underlying 111).map (fun d=>match d with | .struct _ | .array _ _=>true | _=>false)=some true:=by kernel_rfl
 obtain⟨d,h1,h2⟩:=bB.1 hs;exact bZ w X t 111 _ _ d h h1 (by cases d <;>first | rfl | (exfalso;simp at h2)) (by kernel_rfl)
theorem eE.yF {n:Int} {v:Value} (h:eE w X #[.int .i64 n,v] t):(loadVar 95 ⟨X,0,none⟩).run prog w= .ok (.agg #[.int .i64 n,v]) w:=by
 have hs:(prog.underlying 95).map (fun d=>match d with | .struct _ | .array _ _=>true | _=>false)=some true:=by kernel_rfl
 obtain⟨d,h1,h2⟩:=bB.1 hs;exact bZ w X t 95 _ _ d h h1 (by cases d <;>first | rfl | (exfalso;simp at h2)) (by kernel_rfl)
theorem eE.tz {u v:Value} (h:eE w X #[u,v] t):(loadVar 69 ⟨X,0,none⟩).run prog w= .ok (.agg #[u,v]) w:=by
 have hs:(prog.underlying 69).map (fun d=>match d with | .struct _ | .array _ _=>true | _=>false)=some true:=by kernel_rfl
 obtain⟨d,h1,h2⟩:=bB.1 hs;exact bZ w X t 69 _ _ d h h1 (by cases d <;>first | rfl | (exfalso;simp at h2)) (by kernel_rfl)
theorem eE.D5 {n:Int} {v:Value} (h:eE w X #[.int .i64 n,v] t):(loadVar 99 ⟨X,0,none⟩).run prog w= .ok (.agg #[.int .i64 n,v]) w:=by
 have hs:(prog.underlying 99).map (fun d=>match d with | .struct _ | .array _ _=>true | _=>false)=some true:=by kernel_rfl
 obtain⟨d,h1,h2⟩:=bB.1 hs;exact bZ w X t 99 _ _ d h h1 (by cases d <;>first | rfl | (exfalso;simp at h2)) (by kernel_rfl)
theorem eE.two {x0 x1:Value} (h:eE w X #[x0,x1] t):w.cell? ⟨X,0,none⟩=some x0/\w.cell? ⟨X,1,none⟩=some x1/\w.frozen? ⟨X,0,none⟩=false/\w.frozen? ⟨X,1,none⟩=false:=⟨h.cell 0,h.cell 1,h.free 0,h.free 1⟩
theorem eE.F1 {x0 x1 x2:Value} (h:eE w X #[x0,x1,x2] t):w.cell? ⟨X,0,none⟩=some x0/\w.cell? ⟨X,1,none⟩=some x1/\w.cell? ⟨X,2,none⟩=some x2/\w.frozen? ⟨X,0,none⟩=false/\w.frozen? ⟨X,1,none⟩=false/\w.frozen? ⟨X,2,none⟩=false:=⟨h.cell 0,h.cell 1,h.cell 2,h.free 0,h.free 1,h.free 2⟩
theorem eE.mX {x0 x1:Value} (h:eE w X #[x0,x1] t) (y0 y1:Value):eE ((w.setCell ⟨X,0,none⟩ y0).setCell ⟨X,1,none⟩ y1) X #[y0,y1] t:=by simpa using (h.set 0 y0).set 1 y1
theorem eE.tg {x0 x1 x2:Value} (h:eE w X #[x0,x1,x2] t) (y0 y1 y2:Value):eE (((w.setCell ⟨X,0,none⟩ y0).setCell ⟨X,1,none⟩ y1).setCell ⟨X,2,none⟩ y2) X #[y0,y1,y2] t:=by simpa using ((h.set 0 y0).set 1 y1).set 2 y2
theorem ep (w:World) (X i:Nat) (v:Value):dS (fun k=>k=X) w (w.setCell ⟨X,i,none⟩ v):=⟨rfl,rfl,rfl,by simp,fun k _ hk=>cN w ⟨X,i,none⟩ v k hk⟩
theorem fC (w:World) (X:Nat) (y0 y1:Value):dS (fun k=>k=X) w ((w.setCell ⟨X,0,none⟩ y0).setCell ⟨X,1,none⟩ y1):=(ep w X 0 y0).trans (ep _ X 1 y1) (fun _ h=> .inl h)
theorem ku (w:World) (X:Nat) (y0 y1 y2:Value):dS (fun k=>k=X) w (((w.setCell ⟨X,0,none⟩ y0).setCell ⟨X,1,none⟩ y1).setCell ⟨X,2,none⟩ y2):=(fC w X y0 y1).trans (ep _ X 2 y2) (fun _ h=> .inl h)
theorem dS.iW {w w' w2:World} {R:Nat} (h:dS (fun k=>k=R) w w') {Y:Nat} (hk:dS (fun k=>k=Y) w' w2) (hY:w.heap.size <=Y):dS (fun k=>k=R) w w2:=h.trans hk (fun i hi=> .inr (by subst hi;exact hY))
end
end
theorem wQ {x y:fL} (h:y∈oneOf x):y=x/\x.has=true:=by
 unfold oneOf at h;split at h
 ·rename_i hh
  exact⟨aV.1 h,hh⟩
 ·simp at h
theorem oP {least fg:Int} {x:fL} (h:x.may least fg):jM (oneOf x)=x:=by
 obtain⟨has,mn,mx⟩:=x;unfold oneOf;cases has with
 | true=>rfl
 | false=>
  unfold fL.may at h;rw [aC (by simp)]at h;obtain⟨h1,h2⟩:=h;simp only at h1 h2;rw [h1,h2];rfl
theorem wj {least fg:Int} {x:fL} (h:x.may least fg) (hn:oneOf x=[]):x=⟨false,0,0⟩:=by
 rw [<- oP h,hn];rfl
theorem qQ {least fg:Int} {x y:fL} (hm:x.may least fg) (hl:least <=100000) (hmo:fg <=100000) (hy:y∈oneOf x) (r:List UInt8):fZ (gC y++r)=some (y,r):=by
 obtain⟨rfl,hh⟩:=wQ hy;exact xL hh hm hl hmo r
theorem yZ {least fg:Int} {x y:fL} (hm:x.may least fg) (hl:least <=100000) (hmo:fg <=100000) (hy:y∈oneOf x) (r:List UInt8):kS (jf y++r)=some (y,r):=by
 unfold kS jf;rw [bL];simp only [eX,aw];exact qQ hm hl hmo hy r
theorem ye {m:ew} (hm:m.Ga) (ho:m.ok) (hb:∀x∈m.eh,∀y∈x.body,y.ok) (hl:(fy m).length <=8000):mh (fy m)=some m:=by
 obtain⟨h1,h2,h3,h4,h5,h6,h7,h8,h9,h10⟩:=hm;have hlen:(oN m).length <=7992:=by
  simp only [fy,ah]at hl;have:fw.length=8:=rfl;omega
 unfold mh;rw [aC (by omega)];have e0:(fy m).take 8=fw:=by
  unfold fy;exact cP (l₁:=fw)
 have e1:(fy m).drop 8=oN m:=by
  unfold fy;exact da (l₁:=fw)
 rw [aJ e0,e1];have hf:(oN m).length < (fy m).length+1:=by
  simp only [fy,ah];omega
 generalize(fy m).length+1=f at hf;have hlen2:=hlen;simp only [oN,ah]at hlen2;have hstart:nL f m0 (oN m)=nL f (⟨[],[],[],⟨false,0,0⟩,⟨false,0,0⟩,[],[],[],[],[]⟩:ew) (oN m):=rfl;rw [hstart];clear hstart hlen;unfold oN at hf⊢;have v0:=jt 1 kW m.types (n:=7992) (by omega) (by omega);have l0:=lz kW m.types (fun x _=>by simp [kW]);obtain⟨f0,g0,k0⟩:=ka (no:=1) (put:=kW) (get:=oS) (l:=m.types) (m:=(⟨[],[],[],⟨false,0,0⟩,⟨false,0,0⟩,[],[],[],[],[]⟩:ew)) (m':=(⟨m.types,[],[],⟨false,0,0⟩,⟨false,0,0⟩,[],[],[],[],[]⟩:ew)) (fun x=>(⟨x,[],[],⟨false,0,0⟩,⟨false,0,0⟩,[],[],[],[],[]⟩:ew)) (fun b=>rfl) (fun h=>by rw [h]) (rfl) (fun x hx r=>De (h1 x hx) r) (by omega) v0 _ _ hf;rw [k0];have v1:=jt 2 nq m.imports (n:=7992) (by omega) (by omega);have l1:=lz nq m.imports (fun x _=>by have:=(eD x.mod.data.toList.length).1;simp only [nq,oL,ah];omega);obtain⟨f1,g1,k1⟩:=ka (no:=2) (put:=nq) (get:=uw) (l:=m.imports) (m:=(⟨m.types,[],[],⟨false,0,0⟩,⟨false,0,0⟩,[],[],[],[],[]⟩:ew)) (m':=(⟨m.types,m.imports,[],⟨false,0,0⟩,⟨false,0,0⟩,[],[],[],[],[]⟩:ew)) (fun x=>(⟨m.types,x,[],⟨false,0,0⟩,⟨false,0,0⟩,[],[],[],[],[]⟩:ew)) (fun b=>rfl) (fun h=>by rw [h]) (rfl) (fun x hx r=>FE (h2 x hx) r) (by omega) v1 _ _ g0;rw [k1];have v2:=jt 3 rD m.funcs (n:=7992) (by omega) (by omega);have l2:=lz rD m.funcs (fun x _=>(eD x.toNat).1);obtain⟨f2,g2,k2⟩:=ka (no:=3) (put:=rD) (get:=uN) (l:=m.funcs) (m:=(⟨m.types,m.imports,[],⟨false,0,0⟩,⟨false,0,0⟩,[],[],[],[],[]⟩:ew)) (m':=(⟨m.types,m.imports,m.funcs,⟨false,0,0⟩,⟨false,0,0⟩,[],[],[],[],[]⟩:ew)) (fun x=>(⟨m.types,m.imports,x,⟨false,0,0⟩,⟨false,0,0⟩,[],[],[],[],[]⟩:ew)) (fun b=>rfl) (fun h=>by rw [h]) (rfl) (fun x hx r=>sJ (h3 x hx) r) (by omega) v2 _ _ g1;rw [k2];have v3:=jt 4 jf (oneOf m.table) (n:=7992) (by omega) (by omega);have l3:=lz jf (oneOf m.table) (fun x _=>by simp [jf]);obtain⟨f3,g3,k3⟩:=ka (no:=4) (put:=jf) (get:=kS) (l:=(oneOf m.table)) (m:=(⟨m.types,m.imports,m.funcs,⟨false,0,0⟩,⟨false,0,0⟩,[],[],[],[],[]⟩:ew)) (m':=(⟨m.types,m.imports,m.funcs,m.table,⟨false,0,0⟩,[],[],[],[],[]⟩:ew)) (fun x=>(⟨m.types,m.imports,m.funcs,jM x,⟨false,0,0⟩,[],[],[],[],[]⟩:ew)) (fun b=>rfl) (fun h=>by rw [wj h4 h]) (by rw [oP h4]) (fun x hx r=>yZ h4 (by decide) (by decide) hx r) (by omega) v3 _ _ g2;rw [k3];have v4:=jt 5 gC (oneOf m.mem) (n:=7992) (by omega) (by omega);have l4:=lz gC (oneOf m.mem) (fun x _=>by unfold gC;split <;>simp);obtain⟨f4,g4,k4⟩:=ka (no:=5) (put:=gC) (get:=fZ) (l:=(oneOf m.mem)) (m:=(⟨m.types,m.imports,m.funcs,m.table,⟨false,0,0⟩,[],[],[],[],[]⟩:ew)) (m':=(⟨m.types,m.imports,m.funcs,m.table,m.mem,[],[],[],[],[]⟩:ew)) (fun x=>(⟨m.types,m.imports,m.funcs,m.table,jM x,[],[],[],[],[]⟩:ew)) (fun b=>rfl) (fun h=>by rw [wj h5 h]) (by rw [oP h5]) (fun x hx r=>qQ h5 (by decide) (by decide) hx r) (by omega) v4 _ _ g3;rw [k4];have v5:=jt 6 kB m.globals (n:=7992) (by omega) (by omega);have l5:=lz kB m.globals (fun x _=>by simp [kB,je]);obtain⟨f5,g5,k5⟩:=ka (no:=6) (put:=kB) (get:=o8) (l:=m.globals) (m:=(⟨m.types,m.imports,m.funcs,m.table,m.mem,[],[],[],[],[]⟩:ew)) (m':=(⟨m.types,m.imports,m.funcs,m.table,m.mem,m.globals,[],[],[],[]⟩:ew)) (fun x=>(⟨m.types,m.imports,m.funcs,m.table,m.mem,x,[],[],[],[]⟩:ew)) (fun b=>rfl) (fun h=>by rw [h]) (rfl) (fun x hx r=>CO (h6 x hx) (ho.2.2.2.2.1 x hx) r) (by omega) v5 _ _ g4;rw [k5];have v6:=jt 7 nE m.dY (n:=7992) (by omega) (by omega);have l6:=lz nE m.dY (fun x _=>by have:=(eD x.name.data.toList.length).1;simp only [nE,oL,ah];omega);obtain⟨f6,g6,k6⟩:=ka (no:=7) (put:=nE) (get:=tN) (l:=m.dY) (m:=(⟨m.types,m.imports,m.funcs,m.table,m.mem,m.globals,[],[],[],[]⟩:ew)) (m':=(⟨m.types,m.imports,m.funcs,m.table,m.mem,m.globals,m.dY,[],[],[]⟩:ew)) (fun x=>(⟨m.types,m.imports,m.funcs,m.table,m.mem,m.globals,x,[],[],[]⟩:ew)) (fun b=>rfl) (fun h=>by rw [h]) (rfl) (fun x hx r=>D2 (h7 x hx) r) (by omega) v6 _ _ g5;rw [k6];have v7:=jt 9 kI m.elems (n:=7992) (by omega) (by omega);have l7:=lz kI m.elems (fun x _=>by simp [kI,nx]);obtain⟨f7,g7,k7⟩:=ka (no:=9) (put:=kI) (get:=oU) (l:=m.elems) (m:=(⟨m.types,m.imports,m.funcs,m.table,m.mem,m.globals,m.dY,[],[],[]⟩:ew)) (m':=(⟨m.types,m.imports,m.funcs,m.table,m.mem,m.globals,m.dY,m.elems,[],[]⟩:ew)) (fun x=>(⟨m.types,m.imports,m.funcs,m.table,m.mem,m.globals,m.dY,x,[],[]⟩:ew)) (fun b=>rfl) (fun h=>by rw [h]) (rfl) (fun x hx r=>Cy (h8 x hx) r) (by omega) v7 _ _ g6;rw [k7];have v8:=jt 10 im m.eh (n:=7992) (by omega) (by omega);have l8:=lz im m.eh (fun x _=>by have:=(eD (lT x).length).1;simp only [im,ah];omega);obtain⟨f8,g8,k8⟩:=ka (no:=10) (put:=im) (get:=lO) (l:=m.eh) (m:=(⟨m.types,m.imports,m.funcs,m.table,m.mem,m.globals,m.dY,m.elems,[],[]⟩:ew)) (m':=(⟨m.types,m.imports,m.funcs,m.table,m.mem,m.globals,m.dY,m.elems,m.eh,[]⟩:ew)) (fun x=>(⟨m.types,m.imports,m.funcs,m.table,m.mem,m.globals,m.dY,m.elems,x,[]⟩:ew)) (fun b=>rfl) (fun h=>by rw [h]) (rfl) (fun x hx r=>CF (h9 x hx) (hb x hx) (Bf hx hl) r) (by omega) v8 _ _ g7;rw [k8];have v9:=jt 11 nD m.eA (n:=7992) (by omega) (by omega);have l9:=lz nD m.eA (fun x _=>by simp [nD,nx]);rw [show fB 11 nD m.eA=fB 11 nD m.eA++[]from(bW _).symm]at g8⊢;obtain⟨f9,g9,k9⟩:=ka (no:=11) (put:=nD) (get:=uD) (l:=m.eA) (m:=(⟨m.types,m.imports,m.funcs,m.table,m.mem,m.globals,m.dY,m.elems,m.eh,[]⟩:ew)) (m':=(⟨m.types,m.imports,m.funcs,m.table,m.mem,m.globals,m.dY,m.elems,m.eh,m.eA⟩:ew)) (fun x=>(⟨m.types,m.imports,m.funcs,m.table,m.mem,m.globals,m.dY,m.elems,m.eh,x⟩:ew)) (fun b=>rfl) (fun h=>by rw [h]) (rfl) (fun x hx r=>Fl (h10 x hx) r) (by omega) v9 _ _ g8;rw [k9];obtain⟨f',rfl⟩:∃f',f9=f'+1:=⟨f9 - 1,by simp at g9;omega⟩;rfl
structure mI where
 op:Int
 kind:Int
 eJ:Nat
 dead:Bool
deriving DecidableEq
structure eG where
 dX:List Int
 eO:List mI
 bad:Bool
deriving DecidableEq
def eG.need (c:eG) (ok:Bool):eG:={c with bad:=c.bad || !ok}
def eG.push (c:eG) (l:List Int):eG:={c with dX:=c.dX++l}
def eG.top (c:eG):mI:=c.eO.getLast?.getD ⟨0,0,0,false⟩
def eG.pop (c:eG) (want:Int):Int × eG:=
 if c.dX.length=c.top.eJ then(want,c.need c.top.dead)
 else if c.dX.getLast?.getD 0=0 then(want,{c with dX:=c.dX.dropLast})
 else(c.dX.getLast?.getD 0,({c with dX:=c.dX.dropLast}:eG).need (want==0 || c.dX.getLast?.getD 0==want))
def eG.nv (c:eG):List Int ->eG
 | []=>c
 | k::l=>(c.pop k).2.nv l
def eG.fO (c:eG) (l:List Int):eG:=c.nv l.reverse
def gF (k:Int):List Int:=if k=0 then []else [k]
def eG.begin (c:eG) (op kind:Int):eG:={c with eO:=c.eO++[⟨op,kind,c.dX.length,false⟩]}
def eG.BW (c:eG):eG:=(c.fO (gF c.top.kind)).need ((c.fO (gF c.top.kind)).dX.length==c.top.eJ)
def eG.shut (c:eG):mI × eG:=(c.top,{c.BW with eO:=c.BW.eO.dropLast})
def eG.dead (c:eG):eG:={c with dX:=c.dX.take c.top.eJ,eO:=c.eO.dropLast++[{c.top with dead:=true}]}
def eG.xx (c:eG) (n:Int):mI:=(c.eO[c.eO.length - 1 - n.toNat]?).getD ⟨0,0,0,false⟩
def eG.label (c:eG) (n:Int):List Int × eG:=
 if(c.eO.length:Int) <=n then([],{c with bad:=true})else(if(c.xx n).op=3 then []else gF (c.xx n).kind,c)
def typeOf (m:ew) (t:Int):gy × Bool:=if t < 0\/(m.types.length:Int) <=t then(⟨[],[]⟩,false)else((m.types[t.toNat]?).getD ⟨[],[]⟩,true)
def gz (m:ew) (f:Int):gy × Bool:=
 typeOf m (if f < m.imports.length then((m.imports[f.toNat]?).map jd.type).getD 0 else if f - m.imports.length < m.funcs.length then(m.funcs[(f - m.imports.length).toNat]?).getD 0 else -1)
def eG.calls (c:eG) (t:gy × Bool):eG:=((c.need t.2).fO t.1.params).push t.1.results
def eG.BH (c:eG) (want:List Int):List Int ->eG
 | []=>c
 | n::l=>((c.label n).2.need (((c.label n).1.length==want.length)&&((c.label n).1.length==0 || (c.label n).1.head?==want.head?))).BH want l
def eG.table (c:eG) (x:eK):eG:=((((c.pop 1).2.label x.a).2.BH ((c.pop 1).2.label x.a).1 x.l).fO ((c.pop 1).2.label x.a).1).dead
def eG.control (m:ew) (c:eG) (x:eK):Option eG:=
 if x.op=0 then some c.dead
 else if x.op=1 then some c
 else if x.op=2\/x.op=3 then some (c.begin x.op x.a)
 else if x.op=4 then some ((c.pop 1).2.begin x.op x.a)
 else if x.op=5 then some (c.shut.2.begin 5 c.shut.1.kind)
 else if x.op=11 then some ((c.shut.2.need (c.shut.1.op !=4 || c.shut.1.kind==0)).push (gF c.shut.1.kind))
 else if x.op=12 then some ((c.label x.a).2.fO (c.label x.a).1).dead
 else if x.op=13 then some ((((c.pop 1).2.label x.a).2.fO ((c.pop 1).2.label x.a).1).push ((c.pop 1).2.label x.a).1)
 else if x.op=14 then some (c.table x)
 else if x.op=15 then some (c.fO (gF ((c.eO.head?.map mI.kind).getD 0))).dead
 else if x.op=16 then some (c.calls (gz m x.a))
 else if x.op=17 then some (((c.need m.table.has).pop 1).2.calls (typeOf m x.a))
 else none
def eG.local (ls:List Int) (c:eG) (n:Int):Int × eG:=if(ls.length:Int) <=n then(0,{c with bad:=true})else((ls[n.toNat]?).getD 0,c)
def eG.global (m:ew) (c:eG) (n:Int):jb × eG:=if(m.globals.length:Int) <=n then(⟨false,⟨0,0⟩⟩,{c with bad:=true})else((m.globals[n.toNat]?).getD ⟨false,⟨0,0⟩⟩,c)
def eG.access (m:ew) (c:eG) (x:eK) (align:Int) (takes makes:List Int):eG:=((c.need (m.mem.has&&decide (x.a <=align))).fO takes).push makes
def eG.plain (m:ew) (ls:List Int) (c:eG) (x:eK):eG:=
 if x.op=26 then(c.pop 0).2
 else if x.op=27 then((((c.pop 1).2.pop 0).2.pop ((c.pop 1).2.pop 0).1).2).push [(((c.pop 1).2.pop 0).2.pop ((c.pop 1).2.pop 0).1).1]
 else if x.op=32 then(c.local ls x.a).2.push [(c.local ls x.a).1]
 else if x.op=33 then((c.local ls x.a).2.pop (c.local ls x.a).1).2
 else if x.op=34 then(((c.local ls x.a).2.pop (c.local ls x.a).1).2.local ls x.a).2.push [(((c.local ls x.a).2.pop (c.local ls x.a).1).2.local ls x.a).1]
 else if x.op=35 then(c.global m x.a).2.push [(c.global m x.a).1.init.kind]
 else if x.op=36 then(((c.global m x.a).2.need (c.global m x.a).1.isVar).pop (c.global m x.a).1.init.kind).2
 else if x.op=40 then c.access m x 2 [1] [1]
 else if x.op=41 then c.access m x 3 [1] [2]
 else if x.op=44\/x.op=45 then c.access m x 0 [1] [1]
 else if x.op=54 then c.access m x 2 [1,1] []
 else if x.op=55 then c.access m x 3 [1,2] []
 else if x.op=58 then c.access m x 0 [1,1] []
 else if x.op=63 then c.access m x 0 [] [1]
 else if x.op=64 then c.access m x 0 [1] [1]
 else if x.op=65 then c.push [1]
 else if x.op=66 then c.push [2]
 else((c.need (eU x.op).2.2).fO (eU x.op).1).push [(eU x.op).2.1]
def eG.step (m:ew) (ls:List Int) (c:eG) (x:eK):eG:=(c.control m x).getD (c.plain m ls x)
def eG.run (m:ew) (ls:List Int):eG ->List eK ->Option eG
 | c,[]=>some c
 | c,x::l=>if(c.step m ls x).bad=true then none else eG.run m ls (c.step m ls x) l
def fN (m:ew) (k:Int):Bool:=
 if k < 0\/(m.eh.length:Int) <=k\/(m.funcs.length:Int) <=k then false
 else
  let code:=(m.eh[k.toNat]?).getD ⟨[],[]⟩
  let t:=typeOf m ((m.funcs[k.toNat]?).getD 0)
  if t.2=false\/(fu code.body).isSome=false then false
  else
   let ls:=t.1.params++code.locals
   match eG.run m ls (({dX:=[],eO:=[],bad:=false}:eG).begin 2 (t.1.results.head?.getD 0)) code.body with
   | none=>false
   | some c=> !c.shut.2.bad&&decide (ls.length <=32)
theorem eG.mF (c:eG) (b:Bool):(c.need b).eO=c.eO:=rfl
theorem eG.vO (c:eG) (b:Bool):(c.need b).dX=c.dX:=rfl
theorem eG.tb (c:eG) (l:List Int):(c.push l).eO=c.eO:=rfl
theorem eG.pz (c:eG) (k:Int):(c.pop k).2.eO=c.eO:=by
 unfold eG.pop;split
 ·rfl
 ·split <;>rfl
theorem eG.rk:∀(l:List Int) (c:eG),(c.nv l).eO=c.eO
 | [],c=>rfl
 | k::l,c=>by rw [eG.nv,eG.rk l,eG.pz]
theorem eG.il (c:eG) (l:List Int):(c.fO l).eO=c.eO:=eG.rk _ _
def eG.sound (c:eG):Prop:=(∀x∈c.eO,x.eJ <=c.dX.length)/\c.eO.Pairwise fun a b=>a.eJ <=b.eJ
theorem eG.Gr {c:eG} (h:c.eO≠[]):c.top∈c.eO:=by
 unfold eG.top;rw [List.getLast?_eq_some_getLast h];exact List.getLast_mem h
theorem eG.sound.top {c:eG} (h:c.sound) (hn:c.eO≠[]):c.top.eJ <=c.dX.length:=h.1 _ (eG.Gr hn)
theorem eG.sound.le_top {c:eG} (h:c.sound) (hn:c.eO≠[]):∀x∈c.eO,x.eJ <=c.top.eJ:=by
 intro x hx;obtain⟨l,t,hl⟩:∃l t,c.eO=l++[t]:=⟨c.eO.dropLast,c.eO.getLast hn,(db hn).symm⟩;have ht:c.top=t:=by
  unfold eG.top;rw [hl];simp
 rw [ht];rw [hl]at hx;have hp:=h.2;rw [hl,cX]at hp;rcases bA.1 hx with h1 | h1
 ·exact hp.2.2 x h1 t (by simp)
 ·rw [aV.1 h1]
  exact ag _
theorem eG.sound.pop {c:eG} (h:c.sound) (hn:c.eO≠[]) (k:Int):(c.pop k).2.sound:=by
 have ht:=h.top hn;have hle:=h.le_top hn;unfold eG.pop;split
 ·exact h
 ·rename_i Mf
  have key:(({c with dX:=c.dX.dropLast}:eG)).sound:=⟨fun x hx=>by
   have:=hle x hx;simp only [dn];omega,h.2⟩
  split
  ·exact key
  ·exact key
theorem eG.sound.nv:∀(l:List Int) {c:eG},c.sound ->c.eO≠[] ->(c.nv l).sound
 | [],_,h,_=>h
 | k::l,c,h,hn=>eG.sound.nv l (h.pop hn k) (by rw [eG.pz];exact hn)
theorem eG.sound.fO {c:eG} (h:c.sound) (hn:c.eO≠[]) (l:List Int):(c.fO l).sound:=eG.sound.nv _ h hn
theorem eG.sound.push {c:eG} (h:c.sound) (l:List Int):(c.push l).sound:=⟨fun x hx=>by
 have:=h.1 x hx;simp only [eG.push,ah];omega,h.2⟩
theorem eG.sound.begin {c:eG} (h:c.sound) (op kind:Int):(c.begin op kind).sound:=by
 refine⟨fun x hx=>?_,?_⟩
 ·rcases bA.1 hx with h1 | h1
  ·exact h.1 x h1
  ·rw [aV.1 h1]
   exact ag _
 ·show(c.eO++[_]).Pairwise _
  rw [cX];exact⟨h.2,by simp,fun a ha b hb=>by rw [aV.1 hb];exact h.1 a ha⟩
def ew.lists (m:ew):Prop:=
 ((m.types.length <=16/\∀x∈m.types,x.may)/\(m.imports.length <=16/\∀x∈m.imports,x.may)/\((m.funcs.length:Int) <=16 - m.imports.length/\∀n∈m.funcs,fR n))/\
 (m.globals.length <=16/\∀x∈m.globals,x.init.may)/\(m.dY.length <=16/\∀x∈m.dY,x.may)/\(m.elems.length <=16/\∀x∈m.elems,x.may)/\(m.eA.length <=16/\∀x∈m.eA,x.may)
def ew.sM (m:ew):Prop:=m.eh.length=m.funcs.length/\m.eh.length <=16/\∀x∈m.eh,x.may
def ew.vz (m:ew):Prop:=m.sM/\m.lists/\m.table.may 16 1000/\m.mem.may 16 65536
def ew.may (m:ew):Prop:=m.vz/\(fy m).length <=8000
instance (t:gy):Decidable t.may:=by unfold gy.may;infer_instance
instance (x:jd):Decidable x.may:=by unfold jd.may;infer_instance
instance (x:iB):Decidable x.may:=by unfold iB.may;infer_instance
instance (x:iO):Decidable x.may:=by unfold iO.may;infer_instance
instance (x:gl):Decidable x.may:=by unfold gl.may;infer_instance
instance (x:gN):Decidable x.may:=by unfold gN.may;infer_instance
instance (m:ew):Decidable m.lists:=by unfold ew.lists;infer_instance
instance (m:ew):Decidable m.sM:=by unfold ew.sM;infer_instance
instance (m:ew):Decidable m.vz:=by unfold ew.vz;infer_instance
instance (m:ew):Decidable m.may:=by unfold ew.may;infer_instance
theorem ew.vz.Ga {m:ew} (h:m.vz):m.Ga:=by
 obtain⟨⟨_,_,h9⟩,⟨⟨⟨_,h1⟩,⟨_,h2⟩,_,h3⟩,⟨_,h6⟩,⟨_,h7⟩,⟨_,h8⟩,_,h10⟩,h4,h5⟩:=h;exact⟨h1,h2,h3,h4,h5,h6,h7,h8,h9,h10⟩
theorem BQ {α:Type} (put:α ->List UInt8) (k:Nat):∀l:List α,(∀x∈l,(put x).length <=k) ->((l.map put).flatten).length <=k*l.length
 | [],_=>by simp
 | x::l,h=>by
  have h1:=h x (by simp);have h2:=BQ put k l (fun y hy=>h y (by simp [hy]));simp only [bC,bS,ah,aI];rw [Nat.mul_add];omega
theorem jx {α:Type} (put:α ->List UInt8) (k n:Nat) (l:List α) (h:∀x∈l,(put x).length <=k) (hl:l.length <=n):(eS put l).length <=10+k*n:=by
 have h1:=BQ put k l h;have h2:=(eD l.length).2;have h3:k*l.length <=k*n:=dF _ hl;simp only [eS,ah];omega
theorem nz {α:Type} (no:UInt8) (put:α ->List UInt8) (k n:Nat) (l:List α) (h:∀x∈l,(put x).length <=k) (hl:l.length <=n):(fB no put l).length <=21+k*n:=by
 cases l with
 | nil=>simp [fB]
 | cons x l=>
  have h1:=jx put k n _ h hl;have h2:=(eD (eS put (x::l)).length).2;simp only [fB,aI,ah]at h1 h2⊢;omega
theorem DK {t:gy} (h:t.may):(kW t).length <=100:=by
 obtain⟨⟨h1,_⟩,h2,_⟩:=h;have a:=jx je 1 32 t.params (fun x _=>by simp [je]) h1;have b:=jx je 1 1 t.results (fun x _=>by simp [je]) h2;simp only [kW,aI,ah];omega
theorem rL (n:Int):(rD n).length <=10:=(eD n.toNat).2
theorem nJ {s:ByteArray} (h:jR s):(oL s).length <=26:=by
 have a:=(eD s.data.toList.length).2;have:=h.2.1;simp only [oL,ah];omega
theorem GK {x:jd} (h:x.may):(nq x).length <=100:=by
 have a:=nJ h.1;have b:=nJ h.2.1;have c:=rL x.type;simp only [nq,aI,ah];omega
theorem qu (x:fL):(gC x).length <=30:=by
 have a:=(eD x.min.toNat).2;have b:=(eD x.max.toNat).2;unfold gC;split
 ·simp only [aI];omega
 ·simp only [aI,ah];omega
theorem vC (x:fL):(jf x).length <=31:=by
 have:=qu x;simp only [jf,aI];omega
theorem y9 (n:Int) (h:iQ n) (op:Int) (ho:op=65\/op=66):(ij ⟨op,n,0,[]⟩).length <=11:=by
 have s:=(sX h.1 h.2).2;rcases ho with rfl | rfl
 ·have:fY ⟨65,n,0,[]⟩=ib n:=rfl
  rw [ij,this,aI];omega
 ·have:fY ⟨66,n,0,[]⟩=ib n:=rfl
  rw [ij,this,aI];omega
theorem rT {v:fb} (h:v.ok):(lQ v).length <=12:=by
 have:=y9 v.n h.2 (if v.kind=2 then 66 else 65) (by split <;>simp);simp only [lQ,ah,aB];omega
theorem E7 {x:jb} (h:x.init.ok):(kB x).length <=14:=by
 have:=rT h;simp only [kB,je,ah,aI,aM];omega
theorem GO {x:iB} (h:x.may):(nE x).length <=100:=by
 have a:=nJ h.1;have c:=rL x.func;simp only [nE,aI,ah];omega
theorem pG {n:Int} (h:lV n):(nx n).length <=13:=by
 have:=rT (v:=⟨1,n⟩) ⟨⟨by show(-9223372036854775808:Int) <=1;decide,by show(1:Int) <=9223372036854775807;decide⟩,by have:=h.1;show(-9223372036854775808:Int) <=n;omega,by have:=h.2;show n <=(9223372036854775807:Int);omega⟩;simp only [nx,aI];omega
theorem EX {x:iO} (h:x.may):(kI x).length <=600:=by
 have a:=pG h.1;have b:=jx rD 10 50 x.funcs (fun y _=>rL y) h.2.1;simp only [kI,ah];omega
theorem Hr {x:gl} (h:x.may):(nD x).length <=1100:=by
 have a:=pG h.1;have b:=(eD x.bytes.length).2;have:=h.2;simp only [nD,ah];omega
theorem F6 (x:Nat × Int):(xq x).length <=11:=by
 have:=(eD x.1).2;simp only [xq,je,ah,aI,aM];omega
theorem tE {l:List Int} (h:l.length <=32):(kh l).length <=400:=by
 have h1:=oM l;have:=jx xq 11 32 (gx l) (fun x _=>F6 x) (by omega);simp only [kh];omega
def kP (x:fL):Bool:=x.has&&(decide (0 <=x.max)&&decide (x.max < x.min))
def ew.IF (m:ew):Int:=m.imports.length+m.funcs.length
def lF (m:ew) (t:Int):Bool:=decide ((m.types.length:Int) <=t)
def lD (m:ew) (f:Int):Bool:=decide (m.IF <=f)
def xd (m:ew) (pre:List iB) (x:iB):Bool:=lD m x.func || pre.any fun y=>x.name.toList==y.name.toList
def mb (m:ew):List iB ->List iB ->Bool
 | _,[]=>false
 | pre,x::l=>xd m pre x || mb m (pre++[x]) l
def wS (m:ew):Bool:=mb m [] m.dY
def zu (m:ew):Bool:=m.elems.any fun x=>x.funcs.any fun f=>lD m f
def jl (m:ew):Nat ->Bool
 | 0=>true
 | k+1=>jl m k&&fN m k
def iz (m:ew):Int:=
 if decide m.may=false then 0
 else if(m.imports.any fun x=>lF m x.type)=true then 2
 else if(m.funcs.any fun t=>lF m t)=true then 3
 else if kP m.table=true then 4
 else if kP m.mem=true then 5
 else if wS m=true then 7
 else if m.elems.length≠0/\m.table.has=false then 9
 else if zu m=true then 9
 else if jl m m.eh.length=false then 10
 else if m.eA.length≠0/\m.mem.has=false then 11
 else -1
theorem rf (m:ew) (x:iB):∀(l pre:List iB),mb m pre (l++[x])=(mb m pre l || xd m (pre++l) x)
 | [],pre=>by simp [mb]
 | y::l,pre=>by
  simp only [bL,mb,rf m x l (pre++[y]),aP,Bool.or_assoc,bM]
theorem eT {α:Type} {k:Nat} {enc:α ->List Value} {w:World} {v:Value} {l:List α} (h:ee k enc w v l):∃a cap,v= .slice a l.length cap/\l.length <=cap/\cap <=9223372036854775807:=by
 obtain⟨a,cap,hv,h1,h2,_⟩:=h;exact⟨a,cap,hv,h1,h2⟩
theorem uQ {w:World} {v:Value} {l:List UInt8} (h:eI w v l):∃a cap,v= .slice a l.length cap/\l.length <=cap/\cap <=9223372036854775807:=by
 obtain⟨a,cap,hv,h1,h2,_⟩:=h;exact⟨a,cap,hv,h1,h2⟩
theorem boxed {w w':World} {F:Value} {t:TypeId} (h:Below (w.alloc (.cells #[F] t)).heap.size (w.alloc (.cells #[F] t)) w'):w'.cell? ⟨w.heap.size,0,none⟩=some F/\Below w.heap.size w w':=
 ⟨by rw [h.cell (by simp),bP];rfl,((an _ _).alloc (ag _) _).trans (h.mono (by simp))⟩
theorem CW (p:Int ->Bool) (v:Value) (l:List Int) (w:World) (hl:ee 1 eZ w v l) (Kj:Nat) (cs:Array Value)
  (hE:∀args w,(callFunc Kj args).run prog w= .ok (.enter Kj args) w)
  (hp:∀e∈l,∀w',Below w.heap.size w w' ->Calls prog Kj (#[.int .i64 e]++cs) w' (et (p e) w')):
  Calls prog 100 #[v, .func (.func Kj) #[] cs] w (jP p l w):=by
 have HP:=V hp;have HI:=V hl;obtain⟨a,cap,rfl,h1,h2,_⟩:=id hl;unfold maxLen at h2;clear hl hp;go_enter func100,ntmps100;go_wp2_with fail;refine ez (fun a' w'=>∃(k:Nat),a'=fr (.slice a l.length cap:: .func (.func Kj) #[] cs::gs a' 2 5 (.int .i64 l.length:: .int .i64 k::gs a' 9 10 []))/\pI p l w w' k) (fun a' _=>(l.length - (intOf (a'.tmps.getD 8 undef)).toNat)) ?_ ?_
 ·exact⟨0,rfl,by omega,fun i hi=>by omega,an _ _⟩
 ·skip
  rintro R a' w1 ⟨k,Kk,hJ⟩ HR;dsimp only [fr,gs]at Kk;generalize slot a'=f at Kk;subst Kk;obtain⟨hk,hm,hb⟩:=hJ;have Lj:=V hm;clear hm;by_cases Lg:k < l.length;rotate_left
  ·obtain rfl:k=l.length:=by omega
   go_wp2_with fail;go_ret;exact⟨by rw [gL Lj.out];rfl,hb⟩
  obtain⟨e,he⟩:∃e,l[k]?=some e:=⟨_,aq Lg⟩;obtain⟨a',KE,hv,_,_,Kh⟩:=HI.out.below (hb.mono (ag _));injection hv with e1 e2 e3;subst e1 e3;obtain⟨b,off,rfl,Kq,hc⟩:=Kh k e he;have c0:=hc 0 _ rfl;rw [aK,bj]at c0;have Ks:=HP.out e (aO he) w1 hb;have HE:=V he;clear Kh e2 he hc;cases hq:p e
  all_goals
   rw [hq]at Ks;have HQ:=V hq;clear hq;go_wp2_with fail;refine Ks.mono ?_;rintro x w2 ⟨rfl,Kl⟩;replace hb:=dW hb Kl;clear Ks Kl c0;go_wp2_with fail
  ·refine HR.out _ _ ⟨k+1,rfl,by omega,?_,hb⟩ ?_
   ·intro i hi d hd
    rcases bq i k with h | h
    ·exact Lj.out i h d hd
    ·obtain rfl:i=k:=by omega
     rw [HE.out]at hd;injection hd with hd;rw [<- hd];exact HQ.out
   ·simp [intOf]
    omega
  ·go_ret
   exact⟨by rw [ie HE.out HQ.out Lj.out];rfl,hb⟩
theorem qc (p:Int ->Bool) (v:Value) (l:List Int) (w:World) (hl:ee 1 eZ w v l) (Kj:Nat) (cs:Array Value)
  (hE:∀args w,(callFunc Kj args).run prog w= .ok (.enter Kj args) w)
  (hp:∀e∈l,∀w',Below w.heap.size w w' ->Calls prog Kj (#[.int .i64 e]++cs) w' (et (p e) w')):
  Calls prog 63 #[v, .func (.func Kj) #[] cs] w (et (l.any p) w):=by
 go_enter func63,ntmps63;go_wp2_with fail;refine(CW p v l _ hl Kj cs hE hp).mono ?_;rintro x w2 ⟨rfl,hb⟩;clear hE;go_wp2_with fail;go_ret;exact⟨by rw [<- iu];rfl,hb⟩
theorem Bo (b:Bool) (n:Int) (Kj:Nat) (cs:Array Value) (X:Nat) (w:World)
  (hE:∀args w,(callFunc Kj args).run prog w= .ok (.enter Kj args) w) (hX:w.cell? ⟨X,0,none⟩=some (.func (.func Kj) #[] cs))
  (hp:∀w',Below w.heap.size w w' ->Calls prog Kj (#[.int .i64 n]++cs) w' (et b w')):
  Calls prog 147 #[.int .i64 n, .pointer (some ⟨X,0,none⟩)] w (et (!b) w):=by
 have Kq:=aS w _ hX;have HP:=V hp;clear hp;go_enter func147,ntmps147;go_wp2_with fail;refine(HP.out _ (an _ _)).mono ?_;rintro x w2 ⟨rfl,hb⟩;clear hE hX;go_wp2_with fail;go_ret;exact⟨rfl,hb⟩
theorem tG (p:Int ->Bool) (v:Value) (l:List Int) (w:World) (hl:ee 1 eZ w v l) (Kj:Nat) (fg:Int)
  (hE:∀args w,(callFunc Kj args).run prog w= .ok (.enter Kj args) w)
  (hp:∀e∈l,∀w',Below w.heap.size w w' ->Calls prog Kj #[.int .i64 e] w' (et (p e) w')):
  Calls prog 92 #[v, .int .i64 fg, .func (.func Kj) #[] #[]] w (et (decide ((l.length:Int) <=fg)&&l.all p) w):=by
 have HP:=V hp;obtain⟨a,cap,rfl,h1,h2⟩:∃a cap,v= .slice a l.length cap/\l.length <=cap/\cap <=9223372036854775807:=eT hl;have HL:=V hl;clear hp hl;by_cases q:(l.length:Int) <=fg
 ·have f:decide ((l.length:Int) <=fg)=true:=az q
  go_enter func92,ntmps92;go_wp2_with fail;refine bT (qc (fun e=> !p e) _ l _ (HL.out.below ((an _ _).alloc (ag _) _)) 147 #[.pointer (some ⟨w.heap.size,0,none⟩)] (fun args w=>by rfl) ?_) ?_
  ·intro e he w' hw'
   obtain⟨hX,hw⟩:=boxed hw';exact Bo (p e) _ Kj #[] _ w' hE hX (fun w2 h2=>by simpa using HP.out e he w2 (hw.trans (h2.mono hw.size)))
  rintro x w2 ⟨rfl,hb⟩;clear hE;have HF:=V f;clear f;have f:decide ((l.length:Int) <=fg)=true:=HF.out;go_wp2_with fail;go_ret;refine⟨?_,((an _ _).alloc (ag _) _).trans (hb.mono (by simp))⟩;have e1:l.all p= !(l.any fun e=> !p e):=by rw [bU];simp
  rw [f,e1,ct];rfl
 ·have f:decide ((l.length:Int) <=fg)=false:=aA q
  go_enter func92,ntmps92;go_wp2_with fail;go_ret;exact⟨by first | rfl | (rw [f];rfl),(an _ _).alloc (ag _) _⟩
theorem Gd (p:jd ->Bool) (v:Value) (l:List jd) (w:World) (hl:ee 3 sz w v l) (Kj:Nat) (cs:Array Value)
  (hE:∀args w,(callFunc Kj args).run prog w= .ok (.enter Kj args) w)
  (hp:∀e∈l,∀w',Below w.heap.size w w' ->Calls prog Kj (#[.agg #[.string e.mod, .string e.name, .int .i64 e.type]]++cs) w' (et (p e) w')):
  Calls prog 99 #[v, .func (.func Kj) #[] cs] w (jP p l w):=by
 have HP:=V hp;have HI:=V hl;obtain⟨a,cap,rfl,h1,h2,_⟩:=id hl;unfold maxLen at h2;clear hl hp;go_enter func99,ntmps99;go_wp2_with fail;refine ez (fun a' w'=>∃(k:Nat),a'=fr (.slice a l.length cap:: .func (.func Kj) #[] cs::gs a' 2 5 (.int .i64 l.length:: .int .i64 k::gs a' 9 10 []))/\pI p l w w' k) (fun a' _=>(l.length - (intOf (a'.tmps.getD 8 undef)).toNat)) ?_ ?_
 ·exact⟨0,rfl,by omega,fun i hi=>by omega,an _ _⟩
 ·skip
  rintro R a' w1 ⟨k,Kk,hJ⟩ HR;dsimp only [fr,gs]at Kk;generalize slot a'=f at Kk;subst Kk;obtain⟨hk,hm,hb⟩:=hJ;have Lj:=V hm;clear hm;by_cases Lg:k < l.length;rotate_left
  ·obtain rfl:k=l.length:=by omega
   go_wp2_with fail;go_ret;exact⟨by rw [gL Lj.out];rfl,hb⟩
  obtain⟨e,he⟩:∃e,l[k]?=some e:=⟨_,aq Lg⟩;obtain⟨a',KE,hv,_,_,Kh⟩:=HI.out.below (hb.mono (ag _));injection hv with e1 e2 e3;subst e1 e3;obtain⟨b,off,rfl,Kq,hc⟩:=Kh k e he;have c0:=hc 0 _ rfl;have c1:=hc 1 _ rfl;have c2:=hc 2 _ rfl;rw [aK]at c0;have Ks:=HP.out e (aO he) w1 hb;have HE:=V he;clear Kh e2 he hc;cases hq:p e
  all_goals
   rw [hq]at Ks;have HQ:=V hq;clear hq;go_wp2_with fail;refine Ks.mono ?_;rintro x w2 ⟨rfl,Kl⟩;replace hb:=dW hb Kl;clear Ks Kl c0 c1 c2;go_wp2_with fail
  ·refine HR.out _ _ ⟨k+1,rfl,by omega,?_,hb⟩ ?_
   ·intro i hi d hd
    rcases bq i k with h | h
    ·exact Lj.out i h d hd
    ·obtain rfl:i=k:=by omega
     rw [HE.out]at hd;injection hd with hd;rw [<- hd];exact HQ.out
   ·simp [intOf]
    omega
  ·go_ret
   exact⟨by rw [ie HE.out HQ.out Lj.out];rfl,hb⟩
theorem zw (p:jd ->Bool) (v:Value) (l:List jd) (w:World) (hl:ee 3 sz w v l) (Kj:Nat) (cs:Array Value)
  (hE:∀args w,(callFunc Kj args).run prog w= .ok (.enter Kj args) w)
  (hp:∀e∈l,∀w',Below w.heap.size w w' ->Calls prog Kj (#[.agg #[.string e.mod, .string e.name, .int .i64 e.type]]++cs) w' (et (p e) w')):
  Calls prog 61 #[v, .func (.func Kj) #[] cs] w (et (l.any p) w):=by
 go_enter func61,ntmps61;go_wp2_with fail;refine(Gd p v l _ hl Kj cs hE hp).mono ?_;rintro x w2 ⟨rfl,hb⟩;clear hE;go_wp2_with fail;go_ret;exact⟨by rw [<- iu];rfl,hb⟩
theorem EZ (b:Bool) (s1 s2:ByteArray) (n:Int) (Kj:Nat) (cs:Array Value) (X:Nat) (w:World)
  (hE:∀args w,(callFunc Kj args).run prog w= .ok (.enter Kj args) w) (hX:w.cell? ⟨X,0,none⟩=some (.func (.func Kj) #[] cs))
  (hp:∀w',Below w.heap.size w w' ->Calls prog Kj (#[.agg #[.string s1, .string s2, .int .i64 n]]++cs) w' (et b w')):
  Calls prog 247 #[.agg #[.string s1, .string s2, .int .i64 n], .pointer (some ⟨X,0,none⟩)] w (et (!b) w):=by
 have Kq:=aS w _ hX;have HP:=V hp;clear hp;go_enter func247,ntmps247;go_wp2_with fail;refine(HP.out _ ((an _ _).alloc (ag _) _)).mono ?_;rintro x w2 ⟨rfl,hb⟩;clear hE hX;go_wp2_with fail;go_ret;exact⟨rfl,((an _ _).alloc (ag _) _).trans (hb.mono (by simp))⟩
theorem Fz (p:jd ->Bool) (v:Value) (l:List jd) (w:World) (hl:ee 3 sz w v l) (Kj:Nat) (fg:Int)
  (hE:∀args w,(callFunc Kj args).run prog w= .ok (.enter Kj args) w)
  (hp:∀e∈l,∀w',Below w.heap.size w w' ->Calls prog Kj #[.agg #[.string e.mod, .string e.name, .int .i64 e.type]] w' (et (p e) w')):
  Calls prog 156 #[v, .int .i64 fg, .func (.func Kj) #[] #[]] w (et (decide ((l.length:Int) <=fg)&&l.all p) w):=by
 have HP:=V hp;obtain⟨a,cap,rfl,h1,h2⟩:∃a cap,v= .slice a l.length cap/\l.length <=cap/\cap <=9223372036854775807:=eT hl;have HL:=V hl;clear hp hl;by_cases q:(l.length:Int) <=fg
 ·have f:decide ((l.length:Int) <=fg)=true:=az q
  go_enter func156,ntmps156;go_wp2_with fail;refine bT (zw (fun e=> !p e) _ l _ (HL.out.below ((an _ _).alloc (ag _) _)) 247 #[.pointer (some ⟨w.heap.size,0,none⟩)] (fun args w=>by rfl) ?_) ?_
  ·intro e he w' hw'
   obtain⟨hX,hw⟩:=boxed hw';exact EZ (p e) _ _ _ Kj #[] _ w' hE hX (fun w2 h2=>by simpa using HP.out e he w2 (hw.trans (h2.mono hw.size)))
  rintro x w2 ⟨rfl,hb⟩;clear hE;have HF:=V f;clear f;have f:decide ((l.length:Int) <=fg)=true:=HF.out;go_wp2_with fail;go_ret;refine⟨?_,((an _ _).alloc (ag _) _).trans (hb.mono (by simp))⟩;have e1:l.all p= !(l.any fun e=> !p e):=by rw [bU];simp
  rw [f,e1,ct];rfl
 ·have f:decide ((l.length:Int) <=fg)=false:=aA q
  go_enter func156,ntmps156;go_wp2_with fail;go_ret;exact⟨by first | rfl | (rw [f];rfl),(an _ _).alloc (ag _) _⟩
theorem G4 (p:jb ->Bool) (v:Value) (l:List jb) (w:World) (hl:ee 3 sC w v l) (Kj:Nat) (cs:Array Value)
  (hE:∀args w,(callFunc Kj args).run prog w= .ok (.enter Kj args) w)
  (hp:∀e∈l,∀w',Below w.heap.size w w' ->Calls prog Kj (#[.agg #[.bool e.isVar, .int .i64 e.init.kind, .int .i64 e.init.n]]++cs) w' (et (p e) w')):
  Calls prog 287 #[v, .func (.func Kj) #[] cs] w (jP p l w):=by
 have HP:=V hp;have HI:=V hl;obtain⟨a,cap,rfl,h1,h2,_⟩:=id hl;unfold maxLen at h2;clear hl hp;go_enter func287,ntmps287;go_wp2_with fail;refine ez (fun a' w'=>∃(k:Nat),a'=fr (.slice a l.length cap:: .func (.func Kj) #[] cs::gs a' 2 5 (.int .i64 l.length:: .int .i64 k::gs a' 9 10 []))/\pI p l w w' k) (fun a' _=>(l.length - (intOf (a'.tmps.getD 8 undef)).toNat)) ?_ ?_
 ·exact⟨0,rfl,by omega,fun i hi=>by omega,an _ _⟩
 ·skip
  rintro R a' w1 ⟨k,Kk,hJ⟩ HR;dsimp only [fr,gs]at Kk;generalize slot a'=f at Kk;subst Kk;obtain⟨hk,hm,hb⟩:=hJ;have Lj:=V hm;clear hm;by_cases Lg:k < l.length;rotate_left
  ·obtain rfl:k=l.length:=by omega
   go_wp2_with fail;go_ret;exact⟨by rw [gL Lj.out];rfl,hb⟩
  obtain⟨e,he⟩:∃e,l[k]?=some e:=⟨_,aq Lg⟩;obtain⟨a',KE,hv,_,_,Kh⟩:=HI.out.below (hb.mono (ag _));injection hv with e1 e2 e3;subst e1 e3;obtain⟨b,off,rfl,Kq,hc⟩:=Kh k e he;have c0:=hc 0 _ rfl;have c1:=hc 1 _ rfl;have c2:=hc 2 _ rfl;rw [aK]at c0;have Ks:=HP.out e (aO he) w1 hb;have HE:=V he;clear Kh e2 he hc;cases hq:p e
  all_goals
   rw [hq]at Ks;have HQ:=V hq;clear hq;go_wp2_with fail;refine Ks.mono ?_;rintro x w2 ⟨rfl,Kl⟩;replace hb:=dW hb Kl;clear Ks Kl c0 c1 c2;go_wp2_with fail
  ·refine HR.out _ _ ⟨k+1,rfl,by omega,?_,hb⟩ ?_
   ·intro i hi d hd
    rcases bq i k with h | h
    ·exact Lj.out i h d hd
    ·obtain rfl:i=k:=by omega
     rw [HE.out]at hd;injection hd with hd;rw [<- hd];exact HQ.out
   ·simp [intOf]
    omega
  ·go_ret
   exact⟨by rw [ie HE.out HQ.out Lj.out];rfl,hb⟩
theorem DY (p:jb ->Bool) (v:Value) (l:List jb) (w:World) (hl:ee 3 sC w v l) (Kj:Nat) (cs:Array Value)
  (hE:∀args w,(callFunc Kj args).run prog w= .ok (.enter Kj args) w)
  (hp:∀e∈l,∀w',Below w.heap.size w w' ->Calls prog Kj (#[.agg #[.bool e.isVar, .int .i64 e.init.kind, .int .i64 e.init.n]]++cs) w' (et (p e) w')):
  Calls prog 250 #[v, .func (.func Kj) #[] cs] w (et (l.any p) w):=by
 go_enter func250,ntmps250;go_wp2_with fail;refine(G4 p v l _ hl Kj cs hE hp).mono ?_;rintro x w2 ⟨rfl,hb⟩;clear hE;go_wp2_with fail;go_ret;exact⟨by rw [<- iu];rfl,hb⟩
theorem DA (b:Bool) (bb:Bool) (n1 n2:Int) (Kj:Nat) (cs:Array Value) (X:Nat) (w:World)
  (hE:∀args w,(callFunc Kj args).run prog w= .ok (.enter Kj args) w) (hX:w.cell? ⟨X,0,none⟩=some (.func (.func Kj) #[] cs))
  (hp:∀w',Below w.heap.size w w' ->Calls prog Kj (#[.agg #[.bool bb, .int .i64 n1, .int .i64 n2]]++cs) w' (et b w')):
  Calls prog 251 #[.agg #[.bool bb, .int .i64 n1, .int .i64 n2], .pointer (some ⟨X,0,none⟩)] w (et (!b) w):=by
 have Kq:=aS w _ hX;have HP:=V hp;clear hp;go_enter func251,ntmps251;go_wp2_with fail;refine(HP.out _ ((an _ _).alloc (ag _) _)).mono ?_;rintro x w2 ⟨rfl,hb⟩;clear hE hX;go_wp2_with fail;go_ret;exact⟨rfl,((an _ _).alloc (ag _) _).trans (hb.mono (by simp))⟩
theorem DX (p:jb ->Bool) (v:Value) (l:List jb) (w:World) (hl:ee 3 sC w v l) (Kj:Nat) (fg:Int)
  (hE:∀args w,(callFunc Kj args).run prog w= .ok (.enter Kj args) w)
  (hp:∀e∈l,∀w',Below w.heap.size w w' ->Calls prog Kj #[.agg #[.bool e.isVar, .int .i64 e.init.kind, .int .i64 e.init.n]] w' (et (p e) w')):
  Calls prog 160 #[v, .int .i64 fg, .func (.func Kj) #[] #[]] w (et (decide ((l.length:Int) <=fg)&&l.all p) w):=by
 have HP:=V hp;obtain⟨a,cap,rfl,h1,h2⟩:∃a cap,v= .slice a l.length cap/\l.length <=cap/\cap <=9223372036854775807:=eT hl;have HL:=V hl;clear hp hl;by_cases q:(l.length:Int) <=fg
 ·have f:decide ((l.length:Int) <=fg)=true:=az q
  go_enter func160,ntmps160;go_wp2_with fail;refine bT (DY (fun e=> !p e) _ l _ (HL.out.below ((an _ _).alloc (ag _) _)) 251 #[.pointer (some ⟨w.heap.size,0,none⟩)] (fun args w=>by rfl) ?_) ?_
  ·intro e he w' hw'
   obtain⟨hX,hw⟩:=boxed hw';exact DA (p e) _ _ _ Kj #[] _ w' hE hX (fun w2 h2=>by simpa using HP.out e he w2 (hw.trans (h2.mono hw.size)))
  rintro x w2 ⟨rfl,hb⟩;clear hE;have HF:=V f;clear f;have f:decide ((l.length:Int) <=fg)=true:=HF.out;go_wp2_with fail;go_ret;refine⟨?_,((an _ _).alloc (ag _) _).trans (hb.mono (by simp))⟩;have e1:l.all p= !(l.any fun e=> !p e):=by rw [bU];simp
  rw [f,e1,ct];rfl
 ·have f:decide ((l.length:Int) <=fg)=false:=aA q
  go_enter func160,ntmps160;go_wp2_with fail;go_ret;exact⟨by first | rfl | (rw [f];rfl),(an _ _).alloc (ag _) _⟩
theorem GJ (p:iB ->Bool) (v:Value) (l:List iB) (w:World) (hl:ee 2 qS w v l) (Kj:Nat) (cs:Array Value)
  (hE:∀args w,(callFunc Kj args).run prog w= .ok (.enter Kj args) w)
  (hp:∀e∈l,∀w',Below w.heap.size w w' ->Calls prog Kj (#[.agg #[.string e.name, .int .i64 e.func]]++cs) w' (et (p e) w')):
  Calls prog 89 #[v, .func (.func Kj) #[] cs] w (jP p l w):=by
 have HP:=V hp;have HI:=V hl;obtain⟨a,cap,rfl,h1,h2,_⟩:=id hl;unfold maxLen at h2;clear hl hp;go_enter func89,ntmps89;go_wp2_with fail;refine ez (fun a' w'=>∃(k:Nat),a'=fr (.slice a l.length cap:: .func (.func Kj) #[] cs::gs a' 2 5 (.int .i64 l.length:: .int .i64 k::gs a' 9 10 []))/\pI p l w w' k) (fun a' _=>(l.length - (intOf (a'.tmps.getD 8 undef)).toNat)) ?_ ?_
 ·exact⟨0,rfl,by omega,fun i hi=>by omega,an _ _⟩
 ·skip
  rintro R a' w1 ⟨k,Kk,hJ⟩ HR;dsimp only [fr,gs]at Kk;generalize slot a'=f at Kk;subst Kk;obtain⟨hk,hm,hb⟩:=hJ;have Lj:=V hm;clear hm;by_cases Lg:k < l.length;rotate_left
  ·obtain rfl:k=l.length:=by omega
   go_wp2_with fail;go_ret;exact⟨by rw [gL Lj.out];rfl,hb⟩
  obtain⟨e,he⟩:∃e,l[k]?=some e:=⟨_,aq Lg⟩;obtain⟨a',KE,hv,_,_,Kh⟩:=HI.out.below (hb.mono (ag _));injection hv with e1 e2 e3;subst e1 e3;obtain⟨b,off,rfl,Kq,hc⟩:=Kh k e he;have c0:=hc 0 _ rfl;have c1:=hc 1 _ rfl;rw [aK]at c0;have Ks:=HP.out e (aO he) w1 hb;have HE:=V he;clear Kh e2 he hc;cases hq:p e
  all_goals
   rw [hq]at Ks;have HQ:=V hq;clear hq;go_wp2_with fail;refine Ks.mono ?_;rintro x w2 ⟨rfl,Kl⟩;replace hb:=dW hb Kl;clear Ks Kl c0 c1;go_wp2_with fail
  ·refine HR.out _ _ ⟨k+1,rfl,by omega,?_,hb⟩ ?_
   ·intro i hi d hd
    rcases bq i k with h | h
    ·exact Lj.out i h d hd
    ·obtain rfl:i=k:=by omega
     rw [HE.out]at hd;injection hd with hd;rw [<- hd];exact HQ.out
   ·simp [intOf]
    omega
  ·go_ret
   exact⟨by rw [ie HE.out HQ.out Lj.out];rfl,hb⟩
theorem xN (p:iB ->Bool) (v:Value) (l:List iB) (w:World) (hl:ee 2 qS w v l) (Kj:Nat) (cs:Array Value)
  (hE:∀args w,(callFunc Kj args).run prog w= .ok (.enter Kj args) w)
  (hp:∀e∈l,∀w',Below w.heap.size w w' ->Calls prog Kj (#[.agg #[.string e.name, .int .i64 e.func]]++cs) w' (et (p e) w')):
  Calls prog 58 #[v, .func (.func Kj) #[] cs] w (et (l.any p) w):=by
 go_enter func58,ntmps58;go_wp2_with fail;refine(GJ p v l _ hl Kj cs hE hp).mono ?_;rintro x w2 ⟨rfl,hb⟩;clear hE;go_wp2_with fail;go_ret;exact⟨by rw [<- iu];rfl,hb⟩
theorem Eb (b:Bool) (s1:ByteArray) (n:Int) (Kj:Nat) (cs:Array Value) (X:Nat) (w:World)
  (hE:∀args w,(callFunc Kj args).run prog w= .ok (.enter Kj args) w) (hX:w.cell? ⟨X,0,none⟩=some (.func (.func Kj) #[] cs))
  (hp:∀w',Below w.heap.size w w' ->Calls prog Kj (#[.agg #[.string s1, .int .i64 n]]++cs) w' (et b w')):
  Calls prog 252 #[.agg #[.string s1, .int .i64 n], .pointer (some ⟨X,0,none⟩)] w (et (!b) w):=by
 have Kq:=aS w _ hX;have HP:=V hp;clear hp;go_enter func252,ntmps252;go_wp2_with fail;refine(HP.out _ ((an _ _).alloc (ag _) _)).mono ?_;rintro x w2 ⟨rfl,hb⟩;clear hE hX;go_wp2_with fail;go_ret;exact⟨rfl,((an _ _).alloc (ag _) _).trans (hb.mono (by simp))⟩
theorem FD (p:iB ->Bool) (v:Value) (l:List iB) (w:World) (hl:ee 2 qS w v l) (Kj:Nat) (fg:Int)
  (hE:∀args w,(callFunc Kj args).run prog w= .ok (.enter Kj args) w)
  (hp:∀e∈l,∀w',Below w.heap.size w w' ->Calls prog Kj #[.agg #[.string e.name, .int .i64 e.func]] w' (et (p e) w')):
  Calls prog 162 #[v, .int .i64 fg, .func (.func Kj) #[] #[]] w (et (decide ((l.length:Int) <=fg)&&l.all p) w):=by
 have HP:=V hp;obtain⟨a,cap,rfl,h1,h2⟩:∃a cap,v= .slice a l.length cap/\l.length <=cap/\cap <=9223372036854775807:=eT hl;have HL:=V hl;clear hp hl;by_cases q:(l.length:Int) <=fg
 ·have f:decide ((l.length:Int) <=fg)=true:=az q
  go_enter func162,ntmps162;go_wp2_with fail;refine bT (xN (fun e=> !p e) _ l _ (HL.out.below ((an _ _).alloc (ag _) _)) 252 #[.pointer (some ⟨w.heap.size,0,none⟩)] (fun args w=>by rfl) ?_) ?_
  ·intro e he w' hw'
   obtain⟨hX,hw⟩:=boxed hw';exact Eb (p e) _ _ Kj #[] _ w' hE hX (fun w2 h2=>by simpa using HP.out e he w2 (hw.trans (h2.mono hw.size)))
  rintro x w2 ⟨rfl,hb⟩;clear hE;have HF:=V f;clear f;have f:decide ((l.length:Int) <=fg)=true:=HF.out;go_wp2_with fail;go_ret;refine⟨?_,((an _ _).alloc (ag _) _).trans (hb.mono (by simp))⟩;have e1:l.all p= !(l.any fun e=> !p e):=by rw [bU];simp
  rw [f,e1,ct];rfl
 ·have f:decide ((l.length:Int) <=fg)=false:=aA q
  go_enter func162,ntmps162;go_wp2_with fail;go_ret;exact⟨by first | rfl | (rw [f];rfl),(an _ _).alloc (ag _) _⟩
theorem Hg (p:iO ->Bool) (v:Value) (l:List iO) (w:World) (hl:ea 2 tF gS w v l) (Kj:Nat) (cs:Array Value)
  (hE:∀args w,(callFunc Kj args).run prog w= .ok (.enter Kj args) w)
  (hp:∀e∈l,∀u w',Below w.heap.size w w' ->gS w' e u ->Calls prog Kj (#[.agg #[.int .i64 e.off,u]]++cs) w' (et (p e) w')):
  Calls prog 101 #[v, .func (.func Kj) #[] cs] w (jP p l w):=by
 have HP:=V hp;have HI:=V hl;obtain⟨a,cap,rfl,h1,h2⟩:=ea.slice hl;clear hl hp;go_enter func101,ntmps101;go_wp2_with fail;refine ez (fun a' w'=>∃(k:Nat),a'=fr (.slice a l.length cap:: .func (.func Kj) #[] cs::gs a' 2 5 (.int .i64 l.length:: .int .i64 k::gs a' 9 10 []))/\pI p l w w' k) (fun a' _=>(l.length - (intOf (a'.tmps.getD 8 undef)).toNat)) ?_ ?_
 ·exact⟨0,rfl,by omega,fun i hi=>by omega,an _ _⟩
 ·skip
  rintro R a' w1 ⟨k,Kk,hJ⟩ HR;dsimp only [fr,gs]at Kk;generalize slot a'=f at Kk;subst Kk;obtain⟨hk,hm,hb⟩:=hJ;have Lj:=V hm;clear hm;by_cases Lg:k < l.length;rotate_left
  ·obtain rfl:k=l.length:=by omega
   go_wp2_with fail;go_ret;exact⟨by rw [gL Lj.out];rfl,hb⟩
  obtain⟨e,he⟩:∃e,l[k]?=some e:=⟨_,aq Lg⟩;obtain⟨b,off,u,rfl,Kq,hc,hu⟩:=(ea.below HI.out (hb.mono (ag _)) (fun _ _ h=>h.below (hb.mono (ag _)))).get he;have Ks:=HP.out e (aO he) u w1 hb hu;obtain⟨⟨a1,Ky,rfl,-,-,-⟩,-⟩:=id hu;have c0:=hc 0 _ rfl;have c1:=hc 1 _ rfl;rw [aK]at c0;have HE:=V he;clear he hc hu;cases hq:p e
  all_goals
   rw [hq]at Ks;have HQ:=V hq;clear hq;go_wp2_with fail;refine Ks.mono ?_;rintro x w2 ⟨rfl,Kl⟩;replace hb:=dW hb Kl;clear Ks Kl c0 c1;go_wp2_with fail
  ·refine HR.out _ _ ⟨k+1,rfl,by omega,?_,hb⟩ ?_
   ·intro i hi d hd
    rcases bq i k with h | h
    ·exact Lj.out i h d hd
    ·obtain rfl:i=k:=by omega
     rw [HE.out]at hd;injection hd with hd;rw [<- hd];exact HQ.out
   ·simp [intOf]
    omega
  ·go_ret
   exact⟨by rw [ie HE.out HQ.out Lj.out];rfl,hb⟩
theorem tJ (p:iO ->Bool) (v:Value) (l:List iO) (w:World) (hl:ea 2 tF gS w v l) (Kj:Nat) (cs:Array Value)
  (hE:∀args w,(callFunc Kj args).run prog w= .ok (.enter Kj args) w)
  (hp:∀e∈l,∀u w',Below w.heap.size w w' ->gS w' e u ->Calls prog Kj (#[.agg #[.int .i64 e.off,u]]++cs) w' (et (p e) w')):
  Calls prog 65 #[v, .func (.func Kj) #[] cs] w (et (l.any p) w):=by
 go_enter func65,ntmps65;go_wp2_with fail;refine(Hg p v l _ hl Kj cs hE hp).mono ?_;rintro x w2 ⟨rfl,hb⟩;clear hE;go_wp2_with fail;go_ret;exact⟨by rw [<- iu];rfl,hb⟩
theorem FG (b:Bool) (z:Int) (a1:Option Addr) (n1 c1:Nat) (Kj:Nat) (cs:Array Value) (X:Nat) (w:World)
  (hE:∀args w,(callFunc Kj args).run prog w= .ok (.enter Kj args) w) (hX:w.cell? ⟨X,0,none⟩=some (.func (.func Kj) #[] cs))
  (hp:∀w',Below w.heap.size w w' ->Calls prog Kj (#[.agg #[.int .i64 z, .slice a1 n1 c1]]++cs) w' (et b w')):
  Calls prog 253 #[.agg #[.int .i64 z, .slice a1 n1 c1], .pointer (some ⟨X,0,none⟩)] w (et (!b) w):=by
 have Kq:=aS w _ hX;have HP:=V hp;clear hp;go_enter func253,ntmps253;go_wp2_with fail;refine(HP.out _ ((an _ _).alloc (ag _) _)).mono ?_;rintro x w2 ⟨rfl,hb⟩;clear hE hX;go_wp2_with fail;go_ret;exact⟨rfl,((an _ _).alloc (ag _) _).trans (hb.mono (by simp))⟩
theorem Ex (p:iO ->Bool) (v:Value) (l:List iO) (w:World) (hl:ea 2 tF gS w v l) (Kj:Nat) (fg:Int)
  (hE:∀args w,(callFunc Kj args).run prog w= .ok (.enter Kj args) w)
  (hp:∀e∈l,∀u w',Below w.heap.size w w' ->gS w' e u ->Calls prog Kj #[.agg #[.int .i64 e.off,u]] w' (et (p e) w')):
  Calls prog 164 #[v, .int .i64 fg, .func (.func Kj) #[] #[]] w (et (decide ((l.length:Int) <=fg)&&l.all p) w):=by
 have HP:=V hp;obtain⟨a,cap,rfl,h1,h2⟩:∃a cap,v= .slice a l.length cap/\l.length <=cap/\cap <=9223372036854775807:=ea.slice hl;have HL:=V hl;clear hp hl;by_cases q:(l.length:Int) <=fg
 ·have f:decide ((l.length:Int) <=fg)=true:=az q
  go_enter func164,ntmps164;go_wp2_with fail;refine bT (tJ (fun e=> !p e) _ l _ (ea.below HL.out ((an _ _).alloc (ag _) _) (fun _ _ h=>h.below ((an _ _).alloc (ag _) _))) 253 #[.pointer (some ⟨w.heap.size,0,none⟩)] (fun args w=>by rfl) ?_) ?_
  ·intro e he u w' hw' hu
   obtain⟨hX,hw⟩:=boxed hw';obtain⟨⟨a1,Ky,rfl,-,-,-⟩,-⟩:=id hu;exact FG (p e) _ _ _ _ Kj #[] _ w' hE hX (fun w2 h2=>by simpa using HP.out e he _ w2 (hw.trans (h2.mono hw.size)) (hu.below h2))
  rintro x w2 ⟨rfl,hb⟩;clear hE;have HF:=V f;clear f;have f:decide ((l.length:Int) <=fg)=true:=HF.out;go_wp2_with fail;go_ret;refine⟨?_,((an _ _).alloc (ag _) _).trans (hb.mono (by simp))⟩;have e1:l.all p= !(l.any fun e=> !p e):=by rw [bU];simp
  rw [f,e1,ct];rfl
 ·have f:decide ((l.length:Int) <=fg)=false:=aA q
  go_enter func164,ntmps164;go_wp2_with fail;go_ret;exact⟨by first | rfl | (rw [f];rfl),(an _ _).alloc (ag _) _⟩
theorem Hd (p:gl ->Bool) (v:Value) (l:List gl) (w:World) (hl:ea 2 pT gm w v l) (Kj:Nat) (cs:Array Value)
  (hE:∀args w,(callFunc Kj args).run prog w= .ok (.enter Kj args) w)
  (hp:∀e∈l,∀u w',Below w.heap.size w w' ->gm w' e u ->Calls prog Kj (#[.agg #[.int .i64 e.off,u]]++cs) w' (et (p e) w')):
  Calls prog 288 #[v, .func (.func Kj) #[] cs] w (jP p l w):=by
 have HP:=V hp;have HI:=V hl;obtain⟨a,cap,rfl,h1,h2⟩:=ea.slice hl;clear hl hp;go_enter func288,ntmps288;go_wp2_with fail;refine ez (fun a' w'=>∃(k:Nat),a'=fr (.slice a l.length cap:: .func (.func Kj) #[] cs::gs a' 2 5 (.int .i64 l.length:: .int .i64 k::gs a' 9 10 []))/\pI p l w w' k) (fun a' _=>(l.length - (intOf (a'.tmps.getD 8 undef)).toNat)) ?_ ?_
 ·exact⟨0,rfl,by omega,fun i hi=>by omega,an _ _⟩
 ·skip
  rintro R a' w1 ⟨k,Kk,hJ⟩ HR;dsimp only [fr,gs]at Kk;generalize slot a'=f at Kk;subst Kk;obtain⟨hk,hm,hb⟩:=hJ;have Lj:=V hm;clear hm;by_cases Lg:k < l.length;rotate_left
  ·obtain rfl:k=l.length:=by omega
   go_wp2_with fail;go_ret;exact⟨by rw [gL Lj.out];rfl,hb⟩
  obtain⟨e,he⟩:∃e,l[k]?=some e:=⟨_,aq Lg⟩;obtain⟨b,off,u,rfl,Kq,hc,hu⟩:=(ea.below HI.out (hb.mono (ag _)) (fun _ _ h=>h.below (hb.mono (ag _)))).get he;have Ks:=HP.out e (aO he) u w1 hb hu;obtain⟨⟨a1,Ky,rfl,-,-,-⟩,-⟩:=id hu;have c0:=hc 0 _ rfl;have c1:=hc 1 _ rfl;rw [aK]at c0;have HE:=V he;clear he hc hu;cases hq:p e
  all_goals
   rw [hq]at Ks;have HQ:=V hq;clear hq;go_wp2_with fail;refine Ks.mono ?_;rintro x w2 ⟨rfl,Kl⟩;replace hb:=dW hb Kl;clear Ks Kl c0 c1;go_wp2_with fail
  ·refine HR.out _ _ ⟨k+1,rfl,by omega,?_,hb⟩ ?_
   ·intro i hi d hd
    rcases bq i k with h | h
    ·exact Lj.out i h d hd
    ·obtain rfl:i=k:=by omega
     rw [HE.out]at hd;injection hd with hd;rw [<- hd];exact HQ.out
   ·simp [intOf]
    omega
  ·go_ret
   exact⟨by rw [ie HE.out HQ.out Lj.out];rfl,hb⟩
theorem Ed (p:gl ->Bool) (v:Value) (l:List gl) (w:World) (hl:ea 2 pT gm w v l) (Kj:Nat) (cs:Array Value)
  (hE:∀args w,(callFunc Kj args).run prog w= .ok (.enter Kj args) w)
  (hp:∀e∈l,∀u w',Below w.heap.size w w' ->gm w' e u ->Calls prog Kj (#[.agg #[.int .i64 e.off,u]]++cs) w' (et (p e) w')):
  Calls prog 254 #[v, .func (.func Kj) #[] cs] w (et (l.any p) w):=by
 go_enter func254,ntmps254;go_wp2_with fail;refine(Hd p v l _ hl Kj cs hE hp).mono ?_;rintro x w2 ⟨rfl,hb⟩;clear hE;go_wp2_with fail;go_ret;exact⟨by rw [<- iu];rfl,hb⟩
theorem EH (b:Bool) (z:Int) (a1:Option Addr) (n1 c1:Nat) (Kj:Nat) (cs:Array Value) (X:Nat) (w:World)
  (hE:∀args w,(callFunc Kj args).run prog w= .ok (.enter Kj args) w) (hX:w.cell? ⟨X,0,none⟩=some (.func (.func Kj) #[] cs))
  (hp:∀w',Below w.heap.size w w' ->Calls prog Kj (#[.agg #[.int .i64 z, .slice a1 n1 c1]]++cs) w' (et b w')):
  Calls prog 255 #[.agg #[.int .i64 z, .slice a1 n1 c1], .pointer (some ⟨X,0,none⟩)] w (et (!b) w):=by
 have Kq:=aS w _ hX;have HP:=V hp;clear hp;go_enter func255,ntmps255;go_wp2_with fail;refine(HP.out _ ((an _ _).alloc (ag _) _)).mono ?_;rintro x w2 ⟨rfl,hb⟩;clear hE hX;go_wp2_with fail;go_ret;exact⟨rfl,((an _ _).alloc (ag _) _).trans (hb.mono (by simp))⟩
theorem EP (p:gl ->Bool) (v:Value) (l:List gl) (w:World) (hl:ea 2 pT gm w v l) (Kj:Nat) (fg:Int)
  (hE:∀args w,(callFunc Kj args).run prog w= .ok (.enter Kj args) w)
  (hp:∀e∈l,∀u w',Below w.heap.size w w' ->gm w' e u ->Calls prog Kj #[.agg #[.int .i64 e.off,u]] w' (et (p e) w')):
  Calls prog 167 #[v, .int .i64 fg, .func (.func Kj) #[] #[]] w (et (decide ((l.length:Int) <=fg)&&l.all p) w):=by
 have HP:=V hp;obtain⟨a,cap,rfl,h1,h2⟩:∃a cap,v= .slice a l.length cap/\l.length <=cap/\cap <=9223372036854775807:=ea.slice hl;have HL:=V hl;clear hp hl;by_cases q:(l.length:Int) <=fg
 ·have f:decide ((l.length:Int) <=fg)=true:=az q
  go_enter func167,ntmps167;go_wp2_with fail;refine bT (Ed (fun e=> !p e) _ l _ (ea.below HL.out ((an _ _).alloc (ag _) _) (fun _ _ h=>h.below ((an _ _).alloc (ag _) _))) 255 #[.pointer (some ⟨w.heap.size,0,none⟩)] (fun args w=>by rfl) ?_) ?_
  ·intro e he u w' hw' hu
   obtain⟨hX,hw⟩:=boxed hw';obtain⟨⟨a1,Ky,rfl,-,-,-⟩,-⟩:=id hu;exact EH (p e) _ _ _ _ Kj #[] _ w' hE hX (fun w2 h2=>by simpa using HP.out e he _ w2 (hw.trans (h2.mono hw.size)) (hu.below h2))
  rintro x w2 ⟨rfl,hb⟩;clear hE;have HF:=V f;clear f;have f:decide ((l.length:Int) <=fg)=true:=HF.out;go_wp2_with fail;go_ret;refine⟨?_,((an _ _).alloc (ag _) _).trans (hb.mono (by simp))⟩;have e1:l.all p= !(l.any fun e=> !p e):=by rw [bU];simp
  rw [f,e1,ct];rfl
 ·have f:decide ((l.length:Int) <=fg)=false:=aA q
  go_enter func167,ntmps167;go_wp2_with fail;go_ret;exact⟨by first | rfl | (rw [f];rfl),(an _ _).alloc (ag _) _⟩
theorem Hs (p:eK ->Bool) (v:Value) (l:List eK) (w:World) (hl:ea 4 pJ gJ w v l) (Kj:Nat) (cs:Array Value)
  (hE:∀args w,(callFunc Kj args).run prog w= .ok (.enter Kj args) w)
  (hp:∀e∈l,∀u w',Below w.heap.size w w' ->gJ w' e u ->Calls prog Kj (#[.agg #[.int .i64 e.op, .int .i64 e.a, .int .i64 e.b,u]]++cs) w' (et (p e) w')):
  Calls prog 244 #[v, .func (.func Kj) #[] cs] w (jP p l w):=by
 have HP:=V hp;have HI:=V hl;obtain⟨a,cap,rfl,h1,h2⟩:=ea.slice hl;clear hl hp;go_enter func244,ntmps244;go_wp2_with fail;refine ez (fun a' w'=>∃(k:Nat),a'=fr (.slice a l.length cap:: .func (.func Kj) #[] cs::gs a' 2 5 (.int .i64 l.length:: .int .i64 k::gs a' 9 10 []))/\pI p l w w' k) (fun a' _=>(l.length - (intOf (a'.tmps.getD 8 undef)).toNat)) ?_ ?_
 ·exact⟨0,rfl,by omega,fun i hi=>by omega,an _ _⟩
 ·skip
  rintro R a' w1 ⟨k,Kk,hJ⟩ HR;dsimp only [fr,gs]at Kk;generalize slot a'=f at Kk;subst Kk;obtain⟨hk,hm,hb⟩:=hJ;have Lj:=V hm;clear hm;by_cases Lg:k < l.length;rotate_left
  ·obtain rfl:k=l.length:=by omega
   go_wp2_with fail;go_ret;exact⟨by rw [gL Lj.out];rfl,hb⟩
  obtain⟨e,he⟩:∃e,l[k]?=some e:=⟨_,aq Lg⟩;obtain⟨b,off,u,rfl,Kq,hc,hu⟩:=(ea.below HI.out (hb.mono (ag _)) (fun _ _ h=>h.below (hb.mono (ag _)))).get he;have Ks:=HP.out e (aO he) u w1 hb hu;obtain⟨⟨a1,Ky,rfl,-,-,-⟩,-⟩:=id hu;have c0:=hc 0 _ rfl;have c1:=hc 1 _ rfl;have c2:=hc 2 _ rfl;have c3:=hc 3 _ rfl;rw [aK]at c0;have HE:=V he;clear he hc hu;cases hq:p e
  all_goals
   rw [hq]at Ks;have HQ:=V hq;clear hq;go_wp2_with fail;refine Ks.mono ?_;rintro x w2 ⟨rfl,Kl⟩;replace hb:=dW hb Kl;clear Ks Kl c0 c1 c2 c3;go_wp2_with fail
  ·refine HR.out _ _ ⟨k+1,rfl,by omega,?_,hb⟩ ?_
   ·intro i hi d hd
    rcases bq i k with h | h
    ·exact Lj.out i h d hd
    ·obtain rfl:i=k:=by omega
     rw [HE.out]at hd;injection hd with hd;rw [<- hd];exact HQ.out
   ·simp [intOf]
    omega
  ·go_ret
   exact⟨by rw [ie HE.out HQ.out Lj.out];rfl,hb⟩
theorem EE (p:eK ->Bool) (v:Value) (l:List eK) (w:World) (hl:ea 4 pJ gJ w v l) (Kj:Nat) (cs:Array Value)
  (hE:∀args w,(callFunc Kj args).run prog w= .ok (.enter Kj args) w)
  (hp:∀e∈l,∀u w',Below w.heap.size w w' ->gJ w' e u ->Calls prog Kj (#[.agg #[.int .i64 e.op, .int .i64 e.a, .int .i64 e.b,u]]++cs) w' (et (p e) w')):
  Calls prog 148 #[v, .func (.func Kj) #[] cs] w (et (l.any p) w):=by
 go_enter func148,ntmps148;go_wp2_with fail;refine(Hs p v l _ hl Kj cs hE hp).mono ?_;rintro x w2 ⟨rfl,hb⟩;clear hE;go_wp2_with fail;go_ret;exact⟨by rw [<- iu];rfl,hb⟩
theorem DQ (b:Bool) (z1 z2 z3:Int) (a1:Option Addr) (n1 c1:Nat) (Kj:Nat) (cs:Array Value) (X:Nat) (w:World)
  (hE:∀args w,(callFunc Kj args).run prog w= .ok (.enter Kj args) w) (hX:w.cell? ⟨X,0,none⟩=some (.func (.func Kj) #[] cs))
  (hp:∀w',Below w.heap.size w w' ->Calls prog Kj (#[.agg #[.int .i64 z1, .int .i64 z2, .int .i64 z3, .slice a1 n1 c1]]++cs) w' (et b w')):
  Calls prog 149 #[.agg #[.int .i64 z1, .int .i64 z2, .int .i64 z3, .slice a1 n1 c1], .pointer (some ⟨X,0,none⟩)] w (et (!b) w):=by
 have Kq:=aS w _ hX;have HP:=V hp;clear hp;go_enter func149,ntmps149;go_wp2_with fail;refine(HP.out _ ((an _ _).alloc (ag _) _)).mono ?_;rintro x w2 ⟨rfl,hb⟩;clear hE hX;go_wp2_with fail;go_ret;exact⟨rfl,((an _ _).alloc (ag _) _).trans (hb.mono (by simp))⟩
theorem FH (p:eK ->Bool) (v:Value) (l:List eK) (w:World) (hl:ea 4 pJ gJ w v l) (Kj:Nat) (fg:Int)
  (hE:∀args w,(callFunc Kj args).run prog w= .ok (.enter Kj args) w)
  (hp:∀e∈l,∀u w',Below w.heap.size w w' ->gJ w' e u ->Calls prog Kj #[.agg #[.int .i64 e.op, .int .i64 e.a, .int .i64 e.b,u]] w' (et (p e) w')):
  Calls prog 94 #[v, .int .i64 fg, .func (.func Kj) #[] #[]] w (et (decide ((l.length:Int) <=fg)&&l.all p) w):=by
 have HP:=V hp;obtain⟨a,cap,rfl,h1,h2⟩:∃a cap,v= .slice a l.length cap/\l.length <=cap/\cap <=9223372036854775807:=ea.slice hl;have HL:=V hl;clear hp hl;by_cases q:(l.length:Int) <=fg
 ·have f:decide ((l.length:Int) <=fg)=true:=az q
  go_enter func94,ntmps94;go_wp2_with fail;refine bT (EE (fun e=> !p e) _ l _ (ea.below HL.out ((an _ _).alloc (ag _) _) (fun _ _ h=>h.below ((an _ _).alloc (ag _) _))) 149 #[.pointer (some ⟨w.heap.size,0,none⟩)] (fun args w=>by rfl) ?_) ?_
  ·intro e he u w' hw' hu
   obtain⟨hX,hw⟩:=boxed hw';obtain⟨⟨a1,Ky,rfl,-,-,-⟩,-⟩:=id hu;exact DQ (p e) _ _ _ _ _ _ Kj #[] _ w' hE hX (fun w2 h2=>by simpa using HP.out e he _ w2 (hw.trans (h2.mono hw.size)) (hu.below h2))
  rintro x w2 ⟨rfl,hb⟩;clear hE;have HF:=V f;clear f;have f:decide ((l.length:Int) <=fg)=true:=HF.out;go_wp2_with fail;go_ret;refine⟨?_,((an _ _).alloc (ag _) _).trans (hb.mono (by simp))⟩;have e1:l.all p= !(l.any fun e=> !p e):=by rw [bU];simp
  rw [f,e1,ct];rfl
 ·have f:decide ((l.length:Int) <=fg)=false:=aA q
  go_enter func94,ntmps94;go_wp2_with fail;go_ret;exact⟨by first | rfl | (rw [f];rfl),(an _ _).alloc (ag _) _⟩
def Wr (w:World) (b:Value) (B:Nat) (w':World) (v:Value) (L:List UInt8):Prop:=dU w' B v L/\dS (ey b) w w'/\eC w b v
theorem Wr.refl {w:World} {b:Value} {B:Nat} {L:List UInt8} (h:dU w B b L):Wr w b B w b L:=⟨h,dS.refl _ _,eC.refl _ _⟩
theorem Wr.step {w w1 w2:World} {b v1 v2:Value} {B:Nat} {L1 L2:List UInt8} (h:Wr w b B w1 v1 L1) (k:Wr w1 v1 B w2 v2 L2):Wr w b B w2 v2 L2:=
 ⟨k.1,h.2.1.trans k.2.1 (fun i hi=>h.2.2 i hi),h.2.2.trans k.2.2 h.2.1.size⟩
theorem Wr.alloc {w w1:World} {b v:Value} {B:Nat} {L:List UInt8} (h:Wr w b B w1 v L) (o:Obj):Wr w b B (w1.alloc o) v L:=⟨World.ownsRow.alloc h.1 _,h.2.1.alloc _,h.2.2⟩
theorem Wr.drew {w w1:World} {b v:Value} {B:Nat} {L:List UInt8} (h:Wr w b B w1 v L):Wr w b B w1.drew v L:=⟨h.1,h.2.1.drew,h.2.2⟩
theorem Wr.size {w w1:World} {b v:Value} {B:Nat} {L:List UInt8} (h:Wr w b B w1 v L):w.heap.size <=w1.heap.size:=h.2.1.size
theorem Wr.base {w w1:World} {b v:Value} {B:Nat} {L:List UInt8} (h:Wr w b B w1 v L) (hB:B <=w.heap.size):B <=w1.heap.size:=aW hB h.size
theorem Wr.below {w w1 w2:World} {b v:Value} {B:Nat} {L:List UInt8} (h:Wr w b B w1 v L) (hb:Below w1.heap.size w1 w2):Wr w b B w2 v L:=
 ⟨dU.below h.1 hb,h.2.1.trans (dS.dV (S:=fun _=>False) hb) (fun _ hi=>hi.elim),h.2.2⟩
def Aside (w:World) (b:Value) (X:Nat) (cs:Array Value) (t:TypeId):Prop:=eE w X cs t/\¬ ey b X
theorem Aside.next {w w1:World} {b v:Value} {B:Nat} {L:List UInt8} {X:Nat} {cs:Array Value} {t:TypeId} (h:Aside w b X cs t) (k:Wr w b B w1 v L):Aside w1 v X cs t:=
 ⟨h.1.keeps k.2.1 h.2,fun g=>(k.2.2 X g).elim h.2 (fun g=>by have:=h.1.lt;omega)⟩
theorem Aside.new {w:World} {b:Value} {B:Nat} {L:List UInt8} (h:dU w B b L) (cs:Array Value) (t:TypeId):Aside (w.alloc (.cells cs t)) b w.heap.size cs t:=
 ⟨eE.new w cs t,fun g=>by have:=(eo h g).2;omega⟩
theorem Aside.alloc {w:World} {b:Value} {X:Nat} {cs:Array Value} {t:TypeId} (h:Aside w b X cs t) (o:Obj):Aside (w.alloc o) b X cs t:=⟨h.1.alloc o,h.2⟩
theorem Aside.drew {w:World} {b:Value} {X:Nat} {cs:Array Value} {t:TypeId} (h:Aside w b X cs t):Aside w.drew b X cs t:=⟨h.1.drew,h.2⟩
theorem Aside.cell {w:World} {b:Value} {X:Nat} {cs:Array Value} {t:TypeId} (h:Aside w b X cs t) (i:Nat):w.cell? ⟨X,i,none⟩=cs[i]?:=h.1.cell i
def Src (w0 w:World) (B:Nat):Prop:=Below w0.heap.size w0 w/\w0.heap.size <=B
theorem Src.next {w0 w w1:World} {b v:Value} {B:Nat} {L0 L:List UInt8} (h:Src w0 w B) (Ki:dU w B b L0) (k:Wr w b B w1 v L):Src w0 w1 B:=
 ⟨h.1.trans (k.2.1.below h.1.size (fun _ hi=>aW h.2 (eo Ki hi).1)),h.2⟩
theorem Src.alloc {w0 w:World} {B:Nat} (h:Src w0 w B) (o:Obj):Src w0 (w.alloc o) B:=⟨h.1.alloc h.1.size o,h.2⟩
theorem Src.drew {w0 w:World} {B:Nat} (h:Src w0 w B):Src w0 w.drew B:=⟨h.1.drew,h.2⟩
theorem Src.below {w0 w w1:World} {B:Nat} (h:Src w0 w B) (hb:Below w.heap.size w w1):Src w0 w1 B:=⟨h.1.trans (hb.mono h.1.size),h.2⟩
theorem Aside.below {w w1:World} {b:Value} {X:Nat} {cs:Array Value} {t:TypeId} (h:Aside w b X cs t) (hb:Below w.heap.size w w1):Aside w1 b X cs t:=⟨h.1.below hb h.1.lt,h.2⟩
end Go.Proofs.YthbjdhjppbcneaaGreatDoor
