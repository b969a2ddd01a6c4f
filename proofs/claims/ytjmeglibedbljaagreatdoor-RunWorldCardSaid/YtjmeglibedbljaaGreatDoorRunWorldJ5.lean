import Derived.Test.YtjmeglibedbljaaGreatDoorRunWorldJ4
import Derived.Deep.Cut
namespace Go.Proofs.YtjmeglibedbljaaGreatDoor
set_option maxRecDepth 100000
set_option maxHeartbeats 20000000
open Go.RowKit Tryz
open Lib renaming hid->V
set_option linter.all false
theorem jG (b:kG):(yt b).length=3:=rfl
theorem fI (x:Int):(fk x).length=1:=rfl
theorem Fx (b:kG):∀u∈yt b,u.oneCell'=true:=by
 intro u hu;simp only [yt,bx,bI,cH]at hu;rcases hu with rfl | rfl | rfl <;>rfl
theorem jT:(prog.info? 3).map (fun i=>(i.zero,i.size,i.bytes))=some (some (.int .i64 0),1,8):=by kernel_rfl
theorem CL:(prog.info? 114).map (fun i=>(i.zero,i.size,i.bytes))=some (some (.agg #[.int .i64 0, .int .i64 0, .int .i64 0]),3,24):=by kernel_rfl
theorem qH (n:Int) (w:World):Calls prog 85 #[.int .i64 n] w (eL (ko n) w):=by
 by_cases q0:n=2
 ·have f0:=eV q0
  have HB:=V (show ko n=true by rw [q0];rfl);clear q0;go_enter func85,ntmps85;go_wp2;go_ret;exact⟨by rw [HB.out];rfl,an _ _⟩
 have f0:=eh q0;by_cases q1:n=3
 ·have f1:=eV q1
  have HB:=V (show ko n=true by rw [q1];rfl);clear q0 q1;go_enter func85,ntmps85;go_wp2;go_ret;exact⟨by rw [HB.out];rfl,an _ _⟩
 have f1:=eh q1;by_cases q2:n=4
 ·have f2:=eV q2
  have HB:=V (show ko n=true by rw [q2];rfl);clear q0 q1 q2;go_enter func85,ntmps85;go_wp2;go_ret;exact⟨by rw [HB.out];rfl,an _ _⟩
 have f2:=eh q2;have HB:=V (show ko n=false by unfold ko;rw [f0,f1,f2];rfl);clear q0 q1 q2;go_enter func85,ntmps85;go_wp2;go_ret;exact⟨by rw [HB.out];rfl,an _ _⟩
theorem ei.dropLast {α:Type} {t:TypeId} {k:Nat} {enc:α ->List Value} {w:World} {B:Nat} {a:Option Addr} {m cap:Nat} {l:List α} (h:ei t k enc w B (.slice a (m+1) cap) l) (hm:l.length=m+1) (hk:∀x,(enc x).length=k):
  ei t k enc w B (.slice a m cap) l.dropLast:=by
 obtain⟨hl,hv | ⟨g,NK,cur,hv,hb,hg,hn,hc,hs,ht⟩⟩:=h
 ·injection hv.1 with _ e;omega
 ·have QL:l.dropLast.length=m:=by rw [dx,hm];rfl
  injection hv with e1 e2 e3;subst e1 e3;refine⟨by rw [kf hk], .inr ⟨g,cap,cur,by rw [QL],hb,hg,by rw [QL];omega,hc,hs,?_⟩⟩;have e4:(l.dropLast.flatMap enc)=(l.flatMap enc).take (m*k):=by
   have Ox:l≠[]:=by intro e;rw [e]at hm;simp at hm
   conv=>rhs;rw [<- dg Ox,List.flatMap_append]
   rw [List.take_append_of_le_length (by rw [kf hk,QL];exact ag _)];rw [cW (by rw [kf hk,QL];exact ag _)]
  rw [e4, <- ht,QL,List.take_take]
  congr 1
  rw [hm];have:m*k <=(m+1)*k:=cO _ (by omega);omega
theorem xv (a:Option Addr) (m cap:Nat) (h:m+1 <=cap) (wx:World):
  (Instr.slice 26 (.slice a (m+1) cap) none (some (.int .i64 m)) none).run prog wx= .ok (.slice a m cap) wx:=by
 have hu:prog.underlying 26=some (.slice 3):=by kernel_rfl
 obtain⟨i0,hi,Po,Oi,O1⟩:=bS jT;simp [Instr.slice,aZ hu,Instr.sliceBounds,Instr.sliceBound,sizeOf,typeInfo,hi,asIntOf,show m <=cap by omega];cases a <;>simp [Addr.add]
def H8 (l:List fa) (w:World) (e:Ending) (w':World):Prop:=
 Below w.heap.size w w'/\((∃bs v,fM l=some bs/\e= .returned (.tuple #[v, .bool true])/\ei 114 3 yt w' w.heap.size v bs)\/(fM l=none/\e= .returned (.tuple #[.slice none 0 0, .bool false])))
def MW (l:List fa) (w w':World) (va vo:Value) (k:Nat) (all:List kG) (Qz:List Nat):Prop:=
 k <=l.length/\gL l l 0 ([],[])=gL l (l.drop k) k (all,Qz)/\ei 114 3 yt w' w.heap.size va all/\ei 3 1 fk w' w.heap.size vo (Qz.map fun x:Nat=>(x:Int))/\Below w.heap.size w w'/\
 Qz.length <=40/\(∀j∈Qz,j < all.length)/\(∀b∈all,0 <=b.pos/\b.pos < l.length)/\all.length <=k
theorem zp {l:List fa} {k:Nat} {x:fa} {st:List kG × List Nat} (hx:l[k]?=some x) (h:gL l l 0 ([],[])=gL l (l.drop k) k st) (hs:gx l k x st=none) (hl:l.length <=300):fM l=none:=by
 obtain⟨hk,rfl⟩:=aG.1 hx;rw [cz hk,gL,hs]at h;unfold fM;rw [az (by omega),h];rfl
theorem zx {l:List fa} {k:Nat} {x:fa} {st PX:List kG × List Nat} (hx:l[k]?=some x) (h:gL l l 0 ([],[])=gL l (l.drop k) k st) (hs:gx l k x st=some PX):gL l l 0 ([],[])=gL l (l.drop (k+1)) (k+1) PX:=by
 obtain⟨hk,rfl⟩:=aG.1 hx;rw [cz hk,gL,hs]at h;exact h
theorem qJ (v:Value) (l:List fa) (w:World) (hl:gN w v l):Calls prog 42 #[v] w (H8 l w):=by
 obtain⟨a,cap,rfl,h1,h2⟩:=eD.slice hl;have HL:=V hl;clear hl;by_cases q300:l.length <=300;rotate_left
 ·have f0:decide ((300:Int) < (l.length:Int))=true:=ay (by omega)
  have HM:=V (show fM l=none by unfold fM;rw [if_pos (by omega)]);go_enter func42,ntmps42;go_wp2
  go_ret2
  exact⟨an _ _, .inr ⟨HM.out,rfl⟩⟩
 have f0:decide ((300:Int) < (l.length:Int))=false:=aw (by omega);go_enter func42,ntmps42;go_wp2_with fail;clear f0;refine eR (fun a' w'=>∃(va vo:Value) (k:Nat) (all:List kG) (Qz:List Nat),a'=fr (.slice a l.length cap::gs a' 1 3 (va::vo::gs a' 6 6 (.slice a l.length cap:: .int .i64 l.length:: .int .i64 k::gs a' 15 98 [])))/\MW l w w' va vo k all Qz) (fun a' _=>(l.length - (intOf (a'.tmps.getD 14 undef)).toNat)) ?_ ?_
 ·exact⟨_,_,0,[],[],rfl,by omega,rfl,ei.nil _ _,ei.nil _ _,an _ _,by simp,by simp,by simp,by simp⟩
 ·skip
  rintro R a' w1 ⟨va,vo,k,all,Qz,Nm,hJ⟩ HR;dsimp only [fr,gs]at Nm;generalize slot a'=f at Nm;subst Nm;obtain⟨hk,hgo,N5,hopn,hb,ho40,N6,R0,hlen⟩:=hJ;obtain⟨ava,capva,rfl,_,hcva,-⟩:=N5.fT jG;obtain⟨avo,capvo,e,_,hcvo,-⟩:=hopn.fT fI;rw [bJ]at e;subst e;unfold maxLen at hcva hcvo;obtain⟨n,hn⟩:∃n,Qz.length=n:=⟨_,rfl⟩;rw [hn]at hopn ho40⊢;have QA:=V hn;have HGO:=V hgo;have N9:=V N5;have Pe:=V hopn;have NF:=V N6;have HPOS:=V R0;clear hgo N5 hopn N6 R0 hn;by_cases q:k < l.length;rotate_left
  ·obtain rfl:k=l.length:=by omega
   have hgo:=HGO.out;rw [List.drop_length,gL]at hgo;rcases n with _ | m
   ·have ho:Qz=[]:=aI QA.out
    have HM:=V (show fM l=some all by unfold fM;rw [if_neg (by omega),hgo];simp [ho]);clear hgo ho;go_wp2
    go_ret2
    exact⟨hb, .inl ⟨_,_,HM.out,rfl,N9.out⟩⟩
   ·have ho:Qz≠[]:=fun e=>by have:=QA.out;rw [e]at this;simp at this
    have HM:=V (show fM l=none by unfold fM;rw [if_neg (by omega),hgo];simp [ho]);clear hgo ho;go_wp2
    go_ret2
    exact⟨hb, .inr ⟨HM.out,rfl⟩⟩
  obtain⟨x,hx⟩:∃x,l[k]?=some x:=⟨_,aq q⟩;obtain⟨b,off,u,rfl,Nu,hc,hu⟩:=(HL.out.below hb).get hx;obtain⟨⟨au,Ns,rfl,-,-,-⟩,-⟩:=id hu;have c0:=hc 0 _ rfl;have c1:=hc 1 _ rfl;have c2:=hc 2 _ rfl;have c3:=hc 3 _ rfl;rw [aJ]at c0;obtain⟨op,xa,xb,xl⟩:=x;have HX:=V hx;have SG:=V (fun h=>zp hx HGO.out h q300);have TH:=V (fun PX h=>zx (PX:=PX) hx HGO.out h);clear hc hu hx;go_wp2_with fail;refine(qH op _).mono ?_;rintro e w2 ⟨rfl,No⟩;have d0:w2.cell? ⟨w1.heap.size,0,none⟩=some (.int .i64 op):=by rw [No.cell (by simp),bL];rfl
  have hb12:Below w1.heap.size w1 w2:=((an _ _).alloc (ag _) _).trans (No.mono (by simp));have hs12:w1.heap.size < w2.heap.size:=by have:=No.size;simp at this;omega
  have N9:=V (N9.out.below hb12);have Pe:=V (Pe.out.below hb12);have hb:=hb.trans (hb12.mono hb.size);clear No hb12 c0 c1 c2 c3;cases ho:ko op with
  | true=>
   have HO:=V ho;clear ho;by_cases qn:n=40
   ·subst qn
    have HM:=V (show fM l=none by
     refine SG.out ?_;unfold gx;rw [aE HO.out,aE QA.out])
    go_wp2
    go_ret2
    exact⟨hb, .inr ⟨HM.out,rfl⟩⟩
   have fn:((n:Int)==40)=false:=eh (by omega);have Nn:=V (TH.out (all++[⟨k,-1,-1⟩],Qz++[all.length]) (by
    unfold gx;rw [aE HO.out,az (by rw [QA.out];exact qn)]))
   go_wp2_with fail;refine(qH op _).mono ?_;rintro e w3 ⟨rfl,NP⟩;rw [HO.out];have N9:=V (N9.out.below NP);have Pe:=V (Pe.out.below NP);have hb:=hb.trans (NP.mono hb.size);clear NP d0 fn;have TF:=Pe.out;go_wp2_with (first | (at_builtin;refine fw w3 rfl _ _ 26 rfl _ 8 (by kernel_rfl) jT rfl (by decide) (by decide) w.heap.size (.slice avo n capvo) (Qz.map fun x:Nat=>(x:Int)) rfl TF (all.length:Int) _ rfl rfl (by simp [fk,Value.oneCell']) rfl (by rw [bJ,QA.out];omega) hb.size ?_));intro v4 w4 hopn4 QF O2;have TI:=N9.out.keeps QF (fun i hi=>ei.ne N9.out TF (by decide) i hi);have OG:=hb.trans (QF.below hb.size (fun i hi=>(eM TF hi).1));clear QF O2 TF N9 Pe;go_wp2_with (first | (at_builtin;refine fw w4 rfl _ _ 109 rfl _ 24 (by kernel_rfl) CL rfl (by decide) (by decide) w.heap.size (.slice ava all.length capva) all rfl TI (⟨k,-1,-1⟩:kG) _ rfl rfl (Fx _) rfl (by omega) OG.size ?_));intro v5 w5 hall5 Pr RL;have hopn5:=hopn4.keeps Pr (fun i hi=>ei.ne hopn4 TI (by decide) i hi);have N7:=OG.trans (Pr.below OG.size (fun i hi=>(eM TI hi).1));have N9:=V hall5;have Pe:=V hopn5;clear hall5 hopn5 Pr RL TI hopn4 OG;go_wp2;refine HR.out _ _ ⟨_,_,k+1,all++[⟨k,-1,-1⟩],Qz++[all.length],rfl,by omega,Nn.out,N9.out,by rw [ct];exact Pe.out,N7,?_,?_,?_,?_⟩ ?_
   ·rw [ah,QA.out]
    show n+1 <=40;omega
   ·intro j hj
    rw [ah];show j < all.length+1;rcases bU.1 hj with h | h
    ·have:=NF.out j h
     omega
    ·rw [aV.1 h]
     omega
   ·intro b' NJ
    rcases bU.1 NJ with h | h
    ·exact HPOS.out b' h
    ·rw [aV.1 h]
     exact⟨by simp only;omega,by simp only;omega⟩
   ·rw [ah]
    show all.length+1 <=k+1;omega
   ·simp [intOf]
    omega
  | false=>
   have HO:=V ho;clear ho;go_wp2_with fail;refine(qH op _).mono ?_;rintro e w3 ⟨rfl,NP⟩;rw [HO.out];have d1:w3.cell? ⟨w1.heap.size,0,none⟩=some (.int .i64 op):=by rw [NP.cell hs12];exact d0
   have N9:=V (N9.out.below NP);have Pe:=V (Pe.out.below NP);have hb:=hb.trans (NP.mono hb.size);clear NP d0 hs12;by_cases q5:op=5
   ·subst q5
    rcases n with _ | m
    ·have ho:Qz=[]:=aI QA.out
     have HM:=V (SG.out (by
      unfold gx;rw [az (by rw [HO.out];decide),az (by simp),ho];rfl))
     clear ho;go_wp2
     go_ret2
     exact⟨hb, .inr ⟨HM.out,rfl⟩⟩
    have hm0:((m:Int)+1==0)=false:=eh (by omega);obtain⟨j,hj⟩:∃j,Qz[m]?=some j:=⟨_,aq (by rw [QA.out];omega)⟩;have hja:=NF.out j (aN hj);obtain⟨bb,hbj⟩:∃bb,all[j]?=some bb:=⟨_,aq hja⟩;obtain⟨hp0,hp1⟩:=HPOS.out bb (aN hbj);obtain⟨Th,Ru,bfin⟩:=bb;simp only at hp0 hp1;have HGL:=V (show Qz.getLast?=some j by rw [dP,QA.out];exact hj);obtain⟨go,co,curo,e,-,-,-,hgm,-⟩:=Pe.out.open (by intro e;have:=QA.out;rw [List.map_eq_nil_iff.1 e]at this;simp at this);injection e with e1 e2 e3;subst e1 e3;rw [<- e2]at hgm;clear e2;obtain⟨ga,ca,cura,e,hga1,hga2,hga3,-,-⟩:=N9.out.open (by intro e;rw [e]at hja;simp at hja);injection e with e1 e2 e3;subst e1 e3;clear e2;have o0:=Pe.out.cell fI (i:=m) (j:=0) (x:=(j:Int)) (by rw [cC,hj];rfl) rfl;rw [aW,aJ]at o0;have a0:=N9.out.cell jG (i:=j) (j:=0) hbj rfl;have a1:=N9.out.cell jG (i:=j) (j:=1) hbj rfl;have a2:=N9.out.cell jG (i:=j) (j:=2) hbj rfl;rw [aJ]at a0;have HBJ:=V hbj;clear hbj hj;obtain⟨p,hp⟩:∃p:Nat,Th=p:=⟨Th.toNat,by omega⟩;subst hp;have hpl:p < l.length:=by omega
    obtain⟨y,hy⟩:∃y,l[p]?=some y:=⟨_,aq hpl⟩;obtain⟨b',off',u',QU,-,OL,-⟩:=(HL.out.below hb).get hy;injection QU with QU;injection QU with e1 e2;subst e1 e2;have g0:=OL 0 _ rfl;rw [aJ]at g0;obtain⟨yo,ya,yb,yl⟩:=y;have g0:w3.cell? ⟨b,off+p*4,none⟩=some (.int .i64 yo):=g0;have HY:=V hy;have HMS:=V (show gx l k ⟨5,xa,xb,xl⟩ (all,Qz)=(if yo≠4\/0 <=Ru then none else some (all.set j ⟨p,k,bfin⟩,Qz))by
     unfold gx;rw [az (by rw [HO.out];decide),az (by simp),HGL.out];simp only;rw [HBJ.out];simp only;rw [az (by decide)];rw [show((p:Int)).toNat=p by omega,HY.out])
    clear OL hy;by_cases q4:yo=4;rotate_left
    ·have f4:=fB q4
     have HM:=V (SG.out (by rw [HMS.out,aE (.inl q4)]));clear q4;go_wp2
     go_ret2
     exact⟨hb, .inr ⟨HM.out,rfl⟩⟩
    subst q4;by_cases qe:0 <=Ru
    ·have f4:decide (0 <=Ru)=true:=ay qe
     have HM:=V (SG.out (by rw [HMS.out,aE (.inr qe)]));go_wp2
     go_ret2
     exact⟨hb, .inr ⟨HM.out,rfl⟩⟩
    have f4:decide (0 <=Ru)=false:=aw qe;have Nn:=V (TH.out _ (by rw [HMS.out,az (by intro h;rcases h with h | h;exact h rfl;exact qe h)]));have hall':=N9.out.set jG (i:=j) (j:=1) (x:=⟨p,Ru,bfin⟩) (y:=⟨p,k,bfin⟩) (u:= .int .i64 k) HBJ.out (by omega) rfl;have hopn':=Pe.out.keeps (jh w3 ga (j*3+1) (.int .i64 k)) (fun i hi h=>ei.ne Pe.out N9.out (by decide) i hi (by rw [show i=ga from h];rfl));have NJ:=hb.setCell (p:=⟨ga,j*3+1,none⟩) hga1 (.int .i64 k);have z:w3.frozen? ⟨ga,j*3+1,none⟩=false:=dc w3 ga _ cura _ hga3;have HALL':=V hall';have HOPN':=V hopn';clear hall' hopn' HMS hga3;go_wp2;refine HR.out _ _ ⟨_,_,k+1,all.set j ⟨p,k,bfin⟩,Qz,rfl,by omega,Nn.out,HALL'.out,HOPN'.out,NJ,by rw [QA.out];exact ho40,fun i hi=>by rw [dr];exact NF.out i hi,fun c hc=>?_,by rw [dr];omega⟩ ?_
    ·rcases dR hc with h | h
     ·exact HPOS.out c h
     ·rw [h]
      exact⟨by simp only;omega,by simp only;omega⟩
    ·simp [intOf]
     omega
   by_cases QN:op=11
   ·subst QN
    clear q5;rcases n with _ | m
    ·have ho:Qz=[]:=aI QA.out
     have HM:=V (SG.out (by
      unfold gx;rw [az (by rw [HO.out];decide),az (by simp),ho];rfl))
     clear ho;go_wp2
     go_ret2
     exact⟨hb, .inr ⟨HM.out,rfl⟩⟩
    have hm0:((m:Int)+1==0)=false:=eh (by omega);obtain⟨j,hj⟩:∃j,Qz[m]?=some j:=⟨_,aq (by rw [QA.out];omega)⟩;have hja:=NF.out j (aN hj);obtain⟨bb,hbj⟩:∃bb,all[j]?=some bb:=⟨_,aq hja⟩;obtain⟨hp0,hp1⟩:=HPOS.out bb (aN hbj);obtain⟨Th,Ru,bfin⟩:=bb;simp only at hp0 hp1;have HGL:=V (show Qz.getLast?=some j by rw [dP,QA.out];exact hj);obtain⟨go,co,curo,e,-,-,-,hgm,-⟩:=Pe.out.open (by intro e;have:=QA.out;rw [List.map_eq_nil_iff.1 e]at this;simp at this);injection e with e1 e2 e3;subst e1 e3;rw [<- e2]at hgm;clear e2;obtain⟨ga,ca,cura,e,hga1,hga2,hga3,-,-⟩:=N9.out.open (by intro e;rw [e]at hja;simp at hja);injection e with e1 e2 e3;subst e1 e3;clear e2;have o0:=Pe.out.cell fI (i:=m) (j:=0) (x:=(j:Int)) (by rw [cC,hj];rfl) rfl;rw [aW,aJ]at o0;have a0:=N9.out.cell jG (i:=j) (j:=0) hbj rfl;have a1:=N9.out.cell jG (i:=j) (j:=1) hbj rfl;have a2:=N9.out.cell jG (i:=j) (j:=2) hbj rfl;rw [aJ]at a0;have HBJ:=V hbj;clear hbj hj;have Nn:=V (TH.out (all.set j ⟨Th,Ru,k⟩,Qz.dropLast) (by
     unfold gx;rw [az (by rw [HO.out];decide),az (by simp),HGL.out];simp only;rw [HBJ.out];simp only;rw [aE trivial]))
    have hall':=N9.out.set jG (i:=j) (j:=2) (x:=⟨Th,Ru,bfin⟩) (y:=⟨Th,Ru,k⟩) (u:= .int .i64 k) HBJ.out (by omega) rfl;have hopn':=(Pe.out.keeps (jh w3 ga (j*3+2) (.int .i64 k)) (fun i hi h=>ei.ne Pe.out N9.out (by decide) i hi (by rw [show i=ga from h];rfl))).dropLast (by rw [bJ,QA.out]) fI;have NJ:=hb.setCell (p:=⟨ga,j*3+2,none⟩) hga1 (.int .i64 k);have z:w3.frozen? ⟨ga,j*3+2,none⟩=false:=dc w3 ga _ cura _ hga3;have Qr:=xv (some ⟨go,0,none⟩) m capvo hgm;have HALL':=V hall';have HOPN':=V hopn';clear hall' hopn' hga3;go_wp2;refine HR.out _ _ ⟨_,_,k+1,all.set j ⟨Th,Ru,k⟩,Qz.dropLast,rfl,by omega,Nn.out,HALL'.out,?_,NJ,by rw [dx,QA.out];omega,fun i hi=>by rw [dr];exact NF.out i (List.dropLast_subset _ hi),fun c hc=>?_,by rw [dr];omega⟩ ?_
    ·rw [List.map_dropLast]
     exact HOPN'.out
    ·rcases dR hc with h | h
     ·exact HPOS.out c h
     ·rw [h]
      exact⟨by simp only;omega,by simp only;omega⟩
    ·simp [intOf]
     omega
   have f5:=fB q5;have f11:=fB QN;have Nn:=V (TH.out (all,Qz) (by unfold gx;rw [if_neg (by rw [HO.out];decide),if_pos ⟨q5,QN⟩]));clear q5 QN;go_wp2;refine HR.out _ _ ⟨_,_,k+1,all,Qz,rfl,by omega,Nn.out,N9.out,Pe.out,hb,by rw [QA.out];exact ho40,NF.out,HPOS.out,by omega⟩ ?_;simp [intOf];omega
section
theorem DO {bits:Int} (hb:bits <=64) (l:List UInt8):iV (jD bits l).1:=by
 unfold jD;split
 ·exact zJ
 ·split
  ·rename_i h
   have h1:(2:Int)^(bits.toNat - 1) <=2^63:=by
    have:=cP (n:=2) (by omega) (show bits.toNat - 1 <=63 by omega)
    exact_mod_cast this
   have h2:(2:Int)^63=9223372036854775808:=by decide
   exact⟨by simp only;omega,by simp only;omega⟩
  ·exact zJ
theorem KW (L:List UInt8) (c:Nat) (s:IR) (hc:c < 256):(IR.get L c s).1.ok:=by
 have hC:iV (c:Int):=⟨by omega,by omega⟩;have hn:∀n:Nat,n <=4294967295 ->iV (n:Int):=fun n h=>⟨by omega,by omega⟩;have hu:∀lim s,lim <=4294967295 ->iV ((IR.kn L lim s).1:Int):=fun lim s h=>hn _ (aQ (IR.CY L lim s) h);have SH:∀n∈([]:List Int),iV n:=by simp
 unfold IR.get;split
 ·refine⟨hC,hn _ ?_,zJ,SH⟩
  unfold IR.kind;split
  ·simp
  ·split
   ·simp
   ·split <;>simp
 ·exact⟨hC,hu _ _ (by omega),zJ,SH⟩
 ·refine⟨hC,hu _ _ (by omega),zJ,?_⟩
  generalize(s.kn L 50).1=k;generalize(s.kn L 50).2=t;intro n hn;rw [List.mem_map]at hn;obtain⟨m,hm,rfl⟩:=hn
  induction k generalizing t with
  | zero=>simp [IR.mV]at hm
  | succ k ih=>
   simp only [IR.mV,bx]at hm;rcases hm with rfl | hm
   ·exact hu _ _ (by omega)
   ·exact ih _ hm
 ·exact⟨hC,hu _ _ (by omega),zJ,SH⟩
 ·exact⟨hC,hu _ _ (by omega),hu _ _ (by omega),SH⟩
 ·exact⟨hC,zJ,zJ,SH⟩
 ·exact⟨hC,DO (by omega) _,zJ,SH⟩
 ·exact⟨hC,DO (by omega) _,zJ,SH⟩
 ·exact⟨hC,zJ,zJ,SH⟩
theorem get_some {c:UInt8} {l:List UInt8} {x:fa} {s:IR} (hf:fU c.toNat≠0) (hg:IR.get (c::l) c.toNat ⟨1,0⟩=(x,s)) (h:s.err=0):gH (c::l)=some (x,(c::l).drop s.pos):=by
 obtain⟨h1,h2⟩:=IR.s8 c l hf;rw [hg]at h1 h2;rw [IR.rest,aE h]at h1;cases hi:gH (c::l)with
 | none=>rw [hi]at h1;cases h1
 | some y=>
  rw [hi]at h1;injection h1 with h1;have:=h2 y hi;simp only at this;rw [this,h1]
theorem get_none {c:UInt8} {l:List UInt8} {x:fa} {s:IR} (hf:fU c.toNat≠0) (hg:IR.get (c::l) c.toNat ⟨1,0⟩=(x,s)) (h:s.err≠0):gH (c::l)=none:=by
 obtain⟨h1,-⟩:=IR.s8 c l hf;rw [hg]at h1;rw [IR.rest,az h]at h1;cases hi:gH (c::l)with
 | none=>rfl
 | some y=>rw [hi]at h1;cases h1
theorem mv {P:Program} {fn:Func} {t0 u0 u1:Tmp} {ty:TypeId} (h:fn.results=#[.cell t0 ty, .tmp u0, .tmp u1]) (tmps:Array Value) (w:World) {a:Addr} {v:Value} (ht:tmps.getD t0 undef= .pointer (some a))
  (hl:(loadVar ty a).run P w= .ok v w):(results fn tmps).run P w= .ok (.tuple #[v,tmps.getD u0 undef,tmps.getD u1 undef]) w:=by
 have ht':tmps[t0]?.getD undef= .pointer (some a):=by simpa using ht
 simp [results,h,ht',asAddr,hl]
theorem eS.Ej {w:World} {X:Nat} {x0 x1 x2:Int} {v:Value} {t:TypeId} (h:eS w X #[.int .i64 x0, .int .i64 x1, .int .i64 x2,v] t):
  (loadVar 39 ⟨X,0,none⟩).run prog w= .ok (.agg #[.int .i64 x0, .int .i64 x1, .int .i64 x2,v]) w:=by
 have hs:(prog.underlying 39).map (fun d=>match d with | .struct _ | .array _ _=>true | _=>false)=some true:=by kernel_rfl
 obtain⟨d,h1,h2⟩:=bC.1 hs;exact bW w X t 39 _ _ d h h1 (by cases d <;>first | rfl | (exfalso;simp at h2)) (by kernel_rfl)
def Ec (B:Nat) (w:World) (u:Value):Prop:=∀a n cap,u= .slice (some a) n cap ->B <=a.block/\a.block < w.heap.size
def Kv (L:List UInt8) (w:World) (e:Ending) (w':World):Prop:=
 Below w.heap.size w w'/\((∃x r u,gH L=some (x,r)/\e= .returned (.tuple #[.agg #[.int .i64 x.op, .int .i64 x.a, .int .i64 x.b,u], .int .i64 ((L.length - r.length:Nat):Int), .int .i64 0])/\gY w' x u/\Ec w.heap.size w' u)\/
  (∃err:Int,gH L=none/\err≠0/\(0 <=err/\err <=12)/\e= .returned (.tuple #[.agg #[.int .i64 0, .int .i64 0, .int .i64 0, .slice none 0 0], .int .i64 0, .int .i64 err])))
def xy (w0 w:World) (X2 R X6:Nat) (a:Option Addr) (cap:Nat) (L:List UInt8) (s:IR) (op av bv:Int) (u:Value):Prop:=
 ug w0 w R a cap L s/\eS w X6 #[.int .i64 op, .int .i64 av, .int .i64 bv,u] 39/\eS w X2 #[.int .i64 0, .int .i64 0, .int .i64 0, .slice none 0 0] 39/\w0.heap.size <=X2/\X2 < R/\R < X6
section
variable {w0 w w':World} {X2 R X6:Nat} {a:Option Addr} {cap:Nat} {L:List UInt8} {s s':IR} {op av bv:Int} {u:Value}
theorem xy.read (h:xy w0 w X2 R X6 a cap L s op av bv u) (k:ug w0 w' R a cap L s') (hk:ep (fun k=>k=R) w w'):xy w0 w' X2 R X6 a cap L s' op av bv u:=by
 obtain⟨h1,h2,h3,h4,h5,h6⟩:=h;exact⟨k,h2.keeps hk (by omega),h3.keeps hk (by omega),h4,h5,h6⟩
theorem xy.Cc (h:xy w0 w X2 R X6 a cap L s op av bv u) (n:Int):xy w0 (w.setCell ⟨X6,1,none⟩ (.int .i64 n)) X2 R X6 a cap L s op n bv u:=by
 obtain⟨h1,h2,h3,h4,h5,h6⟩:=h;have hk:=fC w X6 1 (.int .i64 n);exact⟨h1.keeps hk (by omega) (fun i hi=>by omega),by simpa using h2.set 1 (.int .i64 n),h3.keeps hk (by omega),h4,h5,h6⟩
theorem xy.M6 (h:xy w0 w X2 R X6 a cap L s op av bv u) (n:Int):xy w0 (w.setCell ⟨X6,2,none⟩ (.int .i64 n)) X2 R X6 a cap L s op av n u:=by
 obtain⟨h1,h2,h3,h4,h5,h6⟩:=h;have hk:=fC w X6 2 (.int .i64 n);exact⟨h1.keeps hk (by omega) (fun i hi=>by omega),by simpa using h2.set 2 (.int .i64 n),h3.keeps hk (by omega),h4,h5,h6⟩
theorem xy.Na (h:xy w0 w X2 R X6 a cap L s op av bv u) (v:Value):xy w0 (w.setCell ⟨X6,3,none⟩ v) X2 R X6 a cap L s op av bv v:=by
 obtain⟨h1,h2,h3,h4,h5,h6⟩:=h;have hk:=fC w X6 3 v;exact⟨h1.keeps hk (by omega) (fun i hi=>by omega),by simpa using h2.set 3 v,h3.keeps hk (by omega),h4,h5,h6⟩
theorem xy.keeps {S:Nat ->Prop} (h:xy w0 w X2 R X6 a cap L s op av bv u) (hk:ep S w w') (hS:∀i,S i ->X6 < i):xy w0 w' X2 R X6 a cap L s op av bv u:=by
 obtain⟨h1,h2,h3,h4,h5,h6⟩:=h;exact⟨h1.keeps hk (fun g=>by have:=hS _ g;omega) (fun i hi=>by have:=hS _ hi;omega),h2.keeps hk (fun g=>by have:=hS _ g;omega),h3.keeps hk (fun g=>by have:=hS _ g;omega),h4,h5,h6⟩
theorem xy.drew (h:xy w0 w X2 R X6 a cap L s op av bv u):xy w0 w.drew X2 R X6 a cap L s op av bv u:=⟨h.1.drew,h.2.1.drew,h.2.2.1.drew,h.2.2.2⟩
end
theorem nj (w:World) (X:Nat) (y0 y1 y2 y3:Value):ep (fun k=>k=X) w ((((w.setCell ⟨X,0,none⟩ y0).setCell ⟨X,1,none⟩ y1).setCell ⟨X,2,none⟩ y2).setCell ⟨X,3,none⟩ y3):=
 (((fC w X 0 y0).trans (fC _ X 1 y1) (fun _ h=> .inl h)).trans (fC _ X 2 y2) (fun _ h=> .inl h)).trans (fC _ X 3 y3) (fun _ h=> .inl h)
def M9 (w0 w:World) (X2 R X6:Nat) (a:Option Addr) (cap:Nat) (L:List UInt8) (c:Nat) (s1:IR) (n k:Nat) (acc:List Nat) (s:IR) (u:Value):Prop:=
 k <=n/\acc.length=k/\(s1.mV L n).1=acc++(s.mV L (n - k)).1/\(s1.mV L n).2=(s.mV L (n - k)).2/\xy w0 w X2 R X6 a cap L s c 0 0 u/\ei 3 1 fk w (X6+1) u (acc.map fun x:Nat=>(x:Int))
def wk (w:World) (X2 R X6:Nat) (a:Option Addr) (cap:Nat) (L:List UInt8) (c:Nat):Act ->World ->Prop:=
 (fun a' w'=>∃(s:IR) (x:fa) (u:Value),a'=fr (gs a' 0 2 (.pointer (some ⟨X2,0,none⟩):: .int .i64 0:: .int .i64 0:: .pointer (some ⟨R,0,none⟩):: .pointer (some ⟨X6,0,none⟩)::gs a' 7 97 []))/\xy w w' X2 R X6 a cap L s x.op x.a x.b u/\(eA 1 fk w' u x.l/\Ec (X2+1) w' u)/\IR.get L c ⟨1,0⟩=(x,s))
theorem rV (b:Value) (L:List UInt8) (w:World) (hb:eZ w b L) (hl:L.length <=1000000):Calls prog 308 #[b] w (Kv L w):=by
 obtain⟨a,cap,rfl,NX,Px,-⟩:=id hb;have HB:=V hb;unfold maxLen at Px;clear hb;go_enter func308,ntmps308;go_wp2_with fail;have hrd0:ug w ((w.alloc (.cells #[.int .i64 0, .int .i64 0, .int .i64 0, .slice none 0 0] 39)).alloc (.cells #[.slice a L.length cap, .int .i64 0, .int .i64 0] 366)) (w.heap.size+1) a cap L ⟨0,0⟩:=by
  have h1:=eS.new (w.alloc (.cells #[.int .i64 0, .int .i64 0, .int .i64 0, .slice none 0 0] 39)) #[.slice a L.length cap, .int .i64 0, .int .i64 0] 366;rw [aC]at h1;exact⟨h1,HB.out,((an _ _).alloc (ag _) _).alloc (by simp) _,by omega,⟨bg _,by decide,by decide⟩⟩
 have Qs:=(eS.new w #[.int .i64 0, .int .i64 0, .int .i64 0, .slice none 0 0] 39).alloc (.cells #[.slice a L.length cap, .int .i64 0, .int .i64 0] 366);refine(rz w _ _ a cap L ⟨0,0⟩ hrd0).mono ?_;rintro e w3 ⟨rfl,h1,hk⟩;obtain⟨c,hc⟩:∃c,(IR.byte L ⟨0,0⟩).1=c:=⟨_,rfl⟩;obtain⟨s1,OC⟩:∃s1,(IR.byte L ⟨0,0⟩).2=s1:=⟨_,rfl⟩;rw [hc];rw [OC]at h1;have hx3:=Qs.keeps hk (by omega);have Qq:w.heap.size+1 < w3.heap.size:=h1.1.lt;have HC:=V hc;have HS1:=V OC;have Oe:=V h1;have N4:=V hx3;clear h1 hk Qs hx3 hrd0 hc OC;go_wp2_with fail;refine(uQ c _).mono ?_;rintro e w5 ⟨rfl,N7⟩;have hg:xy w w5 w.heap.size (w.heap.size+1) w3.heap.size a cap L s1 c 0 0 (.slice none 0 0):=by
  have ON:Below w3.heap.size w3 w5:=((an _ _).alloc (ag _) _).trans (N7.mono (by simp));exact⟨Oe.out.keeps (ep.et (S:=fun _=>False) ON) (fun h=>h) (fun _ h=>h.elim),(eS.new w3 _ _).below N7 (by simp),N4.out.below ON N4.out.lt,ag _,by omega,Qq⟩
 have HG:=V hg;clear hg N7 N4 Oe Qq;generalize w.heap.size+1=R at HG⊢;generalize w.heap.size=X2 at HG⊢;generalize w3.heap.size=X6 at HG⊢;have QB:L=[]\/∃c0 l,L=c0::l:=by cases L with | nil=>exact .inl rfl | cons c0 l=>exact .inr ⟨c0,l,rfl⟩
 rcases QB with hL | ⟨c0,l,hL⟩
 ·have h1:s1=⟨0,2⟩:=by rw [<- HS1.out,hL];rfl
  have h2:c=0:=by rw [<- HC.out,hL];rfl
  subst h1 h2;have HN:=V (show gH L=none by rw [hL];rfl);have HNE:=V (show(2:Int)≠0 by decide);have hf0:fU ((0:Nat):Int)=1:=by decide
  rw [hf0];clear hf0 hL HS1 HC;obtain⟨OE,-,Pz,Pf,hoo2,hoo3⟩:=HG.out;obtain⟨⟨x0,x1,x2,x3⟩,g0,g1,g2,g3⟩:=Pz.four;have d2:(w5).cell? ⟨R,2,none⟩=some (.int .i64 (IR.err ⟨0,2⟩)):=OE.1.cell 2;have OQ:=nj (w5).drew X2 (.int .i64 0) (.int .i64 0) (.int .i64 0) (.slice none 0 0);have Ti:=(OE.1.drew.keeps OQ (by omega)).cell 2;have HX:=V (Pz.drew.vF (.int .i64 0) (.int .i64 0) (.int .i64 0) (.slice none 0 0));have QO:=V Ti;have NV:=V (((((OE.2.2.1.drew).setCell (p:=⟨X2,0,none⟩) Pf (.int .i64 0)).setCell (p:=⟨X2,1,none⟩) Pf (.int .i64 0)).setCell (p:=⟨X2,2,none⟩) Pf (.int .i64 0)).setCell (p:=⟨X2,3,none⟩) Pf (.slice none 0 0));clear OE Pz OQ Ti
  go_upto_region 7 with fail
  refine eB (fun w'=>w'.cell? ⟨R,2,none⟩=some (.int .i64 (IR.err ⟨0,2⟩))) (up 0 5 ((5,false)::(6,true)::(7,true)::[])) (by kernel_rfl) (by kernel_rfl) d2 ?_;iterate 5 (first | (apply sk rfl rfl;simp only [pt]) | (apply eo rfl rfl rfl;·(rintro w' t0;go_wp2;exact⟨rfl,rfl,rfl⟩)))
  refine ew rfl rfl ?_;go_wp2_with fail;refine⟨QO.out,?_⟩;iterate 2 (first | (apply sk rfl rfl;simp only [pt]) | (apply eo rfl rfl rfl;·(rintro w' t0;go_wp2;exact⟨rfl,rfl,rfl⟩)))
  refine eW ?_;refine aA ?_;go_wp2_with fail;refine aF (mv rfl _ _ rfl HX.out.Ej) rfl ?_;exact⟨NV.out, .inr ⟨_,HN.out,HNE.out,HG.out.1.2.2.2.2.2,rfl⟩⟩
 ·have h1:s1=⟨1,0⟩:=by rw [<- HS1.out,hL];rfl
  have h2:c=c0.toNat:=by rw [<- HC.out,hL];rfl
  subst h1 h2;have PZ:c0.toNat < 256:=c0.toNat_lt;obtain⟨f,hf⟩:∃f,fU (c0.toNat:Int)=f:=⟨_,rfl⟩;have TC:f <=9:=by rw [<- hf];exact oO _
  rw [hf];by_cases hz:f=0
  ·subst hz
   have HN:=V (show gH L=none by rw [hL];unfold gH;dsimp only;rw [hf];rfl);have HNE:=V (show(1:Int)≠0 by decide);have NH:=HG.out.read (HG.out.1.set (s':=⟨1,1⟩) (i:=2) (v:= .int .i64 1) rfl ⟨by rw [hL];simp,by decide,by decide⟩) (fC w5 R 2 _);have z2:=HG.out.1.1.free 2;have d2:w5.cell? ⟨R,2,none⟩=some (.int .i64 0):=HG.out.1.1.cell 2;clear hf HS1 HC TC hL HG
   go_upto_region 6 with fail
   generalize w5.setCell ⟨R,2,none⟩ (.int .i64 1)=w6 at NH⊢;have HG:=V NH;clear NH z2 d2;obtain⟨OE,-,Pz,Pf,hoo2,hoo3⟩:=HG.out;obtain⟨⟨x0,x1,x2,x3⟩,g0,g1,g2,g3⟩:=Pz.four;have d2:(w6).cell? ⟨R,2,none⟩=some (.int .i64 (IR.err ⟨1,1⟩)):=OE.1.cell 2;have OQ:=nj (w6).drew X2 (.int .i64 0) (.int .i64 0) (.int .i64 0) (.slice none 0 0);have Ti:=(OE.1.drew.keeps OQ (by omega)).cell 2;have HX:=V (Pz.drew.vF (.int .i64 0) (.int .i64 0) (.int .i64 0) (.slice none 0 0));have QO:=V Ti;have NV:=V (((((OE.2.2.1.drew).setCell (p:=⟨X2,0,none⟩) Pf (.int .i64 0)).setCell (p:=⟨X2,1,none⟩) Pf (.int .i64 0)).setCell (p:=⟨X2,2,none⟩) Pf (.int .i64 0)).setCell (p:=⟨X2,3,none⟩) Pf (.slice none 0 0));clear OE Pz OQ Ti
   go_upto_region 7 with fail
   refine eB (fun w'=>w'.cell? ⟨R,2,none⟩=some (.int .i64 (IR.err ⟨1,1⟩))) (up 0 5 ((5,false)::(6,true)::(7,true)::[])) (by kernel_rfl) (by kernel_rfl) d2 ?_;iterate 5 (first | (apply sk rfl rfl;simp only [pt]) | (apply eo rfl rfl rfl;·(rintro w' t0;go_wp2;exact⟨rfl,rfl,rfl⟩)))
   refine ew rfl rfl ?_;go_wp2_with fail;refine⟨QO.out,?_⟩;iterate 2 (first | (apply sk rfl rfl;simp only [pt]) | (apply eo rfl rfl rfl;·(rintro w' t0;go_wp2;exact⟨rfl,rfl,rfl⟩)))
   refine eW ?_;refine aA ?_;go_wp2_with fail;refine aF (mv rfl _ _ rfl HX.out.Ej) rfl ?_;exact⟨NV.out, .inr ⟨_,HN.out,HNE.out,HG.out.1.2.2.2.2.2,rfl⟩⟩
  have HF:=V hf;have HL:=V hL;have HF9:=V TC;have Ox:((f:Int)==0)=false:=eh (by omega);clear hf HS1 HC hL TC;obtain⟨OE,hb6x,Pz,-,hoo2,hoo3⟩:=HG.out;obtain⟨⟨e0,e1,e2,e3⟩,-,y1,y2,y3⟩:=hb6x.four;have d1:(w5).cell? ⟨R,1,none⟩=some (.int .i64 (IR.pos ⟨1,0⟩)):=OE.1.cell 1;have d2:(w5).cell? ⟨R,2,none⟩=some (.int .i64 (IR.err ⟨1,0⟩)):=OE.1.cell 2;have z2:=OE.1.free 2;clear OE hb6x Pz
  go_upto_region 9 with fail
  rename_i K1 h1 K2 h2;have HK:Hid (∀a' w',wk w X2 R X6 a cap L c0.toNat a' w' ->K1 a' w'):=V (by
   clear h2 Ox d1 d2 z2 e0 e1 e2 e3 y1 y2 y3;rintro a' w7 h;unfold wk at h;obtain⟨s,x,u,Nm,hg,⟨hu,hfu⟩,hget⟩:=h;dsimp only [fr,gs]at Nm;generalize slot a'=g at Nm;subst Nm;apply h1;clear h1;have Nt:=KW L c0.toNat ⟨1,0⟩ PZ;rw [hget]at Nt;obtain⟨xo,xa,xb,xl⟩:=x;simp only at hu hg Nt;have HGT:=V hget;have Oj:=V Nt;have HU:=V hu;have HFU:=V hfu;have HG:=V hg;have Rv:=V (show fU c0.toNat≠0 by rw [HF.out];exact hz);have hn:∀s':IR,s'=s ->s'.err≠0 ->gH L=none:=fun s' e h=>by rw [HL.out];exact get_none Rv.out (by rw [<- HL.out,HGT.out]) (by rw [<- e];exact h)
   have PH:s.err=0 ->gH L=some (⟨xo,xa,xb,xl⟩,L.drop s.pos):=fun h=>by rw [HL.out];exact get_some Rv.out (by rw [<- HL.out,HGT.out]) h
   have HNN:=V hn;have TJ:=V PH;clear Nt hget hu hfu hg hn PH;by_cases q:s.err=0;rotate_left
   ·have f1:=fB q
    have HN:=V (HNN.out s rfl q);have HNE:=V q;clear q;obtain⟨OE,-,Pz,Pf,hoo2,hoo3⟩:=HG.out;obtain⟨⟨x0,x1,x2,x3⟩,g0,g1,g2,g3⟩:=Pz.four;have d2:(w7).cell? ⟨R,2,none⟩=some (.int .i64 (IR.err s)):=OE.1.cell 2;have OQ:=nj (w7).drew X2 (.int .i64 0) (.int .i64 0) (.int .i64 0) (.slice none 0 0);have Ti:=(OE.1.drew.keeps OQ (by omega)).cell 2;have HX:=V (Pz.drew.vF (.int .i64 0) (.int .i64 0) (.int .i64 0) (.slice none 0 0));have QO:=V Ti;have NV:=V (((((OE.2.2.1.drew).setCell (p:=⟨X2,0,none⟩) Pf (.int .i64 0)).setCell (p:=⟨X2,1,none⟩) Pf (.int .i64 0)).setCell (p:=⟨X2,2,none⟩) Pf (.int .i64 0)).setCell (p:=⟨X2,3,none⟩) Pf (.slice none 0 0));clear OE Pz OQ Ti
    go_upto_region 32 with fail
    refine eB (fun w'=>w'.cell? ⟨R,2,none⟩=some (.int .i64 (IR.err s))) (up 0 5 ((5,false)::(6,true)::(7,true)::[])) (by kernel_rfl) (by kernel_rfl) d2 ?_;iterate 5 (first | (apply sk rfl rfl;simp only [pt]) | (apply eo rfl rfl rfl;·(rintro w' t0;go_wp2;exact⟨rfl,rfl,rfl⟩)))
    refine ew rfl rfl ?_;go_wp2_with fail;refine⟨QO.out,?_⟩;iterate 2 (first | (apply sk rfl rfl;simp only [pt]) | (apply eo rfl rfl rfl;·(rintro w' t0;go_wp2;exact⟨rfl,rfl,rfl⟩)))
    refine eW ?_;refine aA ?_;go_wp2_with fail;refine aF (mv rfl _ _ rfl HX.out.Ej) rfl ?_;exact⟨NV.out, .inr ⟨_,HN.out,HNE.out,HG.out.1.2.2.2.2.2,rfl⟩⟩
   ·have HI:=V (TJ.out q)
    have d2:w7.cell? ⟨R,2,none⟩=some (.int .i64 0):=by rw [<- q];exact HG.out.1.1.cell 2
    obtain⟨au,Ns,rfl,-,-,-⟩:=id HU.out;clear q HNN TJ;obtain⟨OE,hb6x,Pz,Pf,hoo2,hoo3⟩:=HG.out;obtain⟨⟨x0,x1,x2,x3⟩,g0,g1,g2,g3⟩:=Pz.four;have d1:w7.cell? ⟨R,1,none⟩=some (.int .i64 s.pos):=OE.1.cell 1;obtain⟨⟨l0,l1,l2,l3⟩,-⟩:=hb6x.four;have OQ:=nj w7.drew X2 (.int .i64 xo) (.int .i64 xa) (.int .i64 xb) (.slice au xl.length Ns);have HD1:=V ((OE.1.drew.keeps OQ (by omega)).cell 1);have HL6:=V (hb6x.drew.keeps OQ (by omega)).four.1;have HX:=V (Pz.drew.vF (.int .i64 xo) (.int .i64 xa) (.int .i64 xb) (.slice au xl.length Ns));have NV:=V (((((OE.2.2.1.drew).setCell (p:=⟨X2,0,none⟩) Pf (.int .i64 xo)).setCell (p:=⟨X2,1,none⟩) Pf (.int .i64 xa)).setCell (p:=⟨X2,2,none⟩) Pf (.int .i64 xb)).setCell (p:=⟨X2,3,none⟩) Pf (.slice au xl.length Ns));have hu9:=HU.out.keeps OQ.C2 (fun b n c e h=>by have:=(HFU.out b n c e).1;have h':b.block=X2:=h;omega);have TC:Ec w.heap.size ((((w7.drew.setCell ⟨X2,0,none⟩ (.int .i64 xo)).setCell ⟨X2,1,none⟩ (.int .i64 xa)).setCell ⟨X2,2,none⟩ (.int .i64 xb)).setCell ⟨X2,3,none⟩ (.slice au xl.length Ns)) (.slice au xl.length Ns):=fun b n c e=>by
     obtain⟨k1,k2⟩:=HFU.out b n c e;exact⟨by omega,by simpa using k2⟩
    have HU9:=V hu9;have HF9':=V TC;have hpl:s.pos <=L.length:=OE.2.2.2.2.1;have HPL:=V hpl;clear OE hb6x Pz OQ hu9 TC hpl
    go_upto_region 33 with fail
    refine eB (fun w'=>w'.cell? ⟨R,1,none⟩=some (.int .i64 s.pos)/\w'.cell? ⟨X6,0,none⟩=some (.int .i64 xo)/\w'.cell? ⟨X6,1,none⟩=some (.int .i64 xa)/\w'.cell? ⟨X6,2,none⟩=some (.int .i64 xb)/\w'.cell? ⟨X6,3,none⟩=some (.slice au xl.length Ns)) (up 0 5 ((5,false)::(6,true)::(7,true)::[])) (by kernel_rfl) (by kernel_rfl) ⟨d1,l0,l1,l2,l3⟩ ?_;iterate 5 (first | (apply sk rfl rfl;simp only [pt]) | (apply eo rfl rfl rfl;·(rintro w' ⟨t0,t1,t2,t3,t4⟩;go_wp2;exact⟨rfl,rfl,rfl⟩)))
    refine ew rfl rfl ?_;go_wp2_with fail;refine⟨⟨HD1.out,HL6.out⟩,?_⟩;iterate 2 (first | (apply sk rfl rfl;simp only [pt]) | (apply eo rfl rfl rfl;·(rintro w' ⟨t0,t1,t2,t3,t4⟩;go_wp2;exact⟨rfl,rfl,rfl⟩)))
    refine eW ?_;refine aA ?_;go_wp2_with fail;refine aF (mv rfl _ _ rfl HX.out.Ej) rfl ?_;refine⟨NV.out, .inl ⟨_,_,_,HI.out,?_,⟨HU9.out,Oj.out⟩,HF9'.out⟩⟩;have e:((L.length - (L.drop s.pos).length:Nat):Int)=s.pos:=by
     rw [bu];have:=HPL.out;omega
    rw [e];rfl
   )
  clear h1 d1 d2 z2;have OX:=HK;clear HK;rcases(show f=1\/f=2\/f=3\/f=4\/f=5\/f=6\/f=7\/f=8\/f=9 by have:=HF9.out;omega)with rfl | rfl | rfl | rfl | rfl | rfl | rfl | rfl | rfl
  ·clear hz Ox e1 e2 e3 y1 y2 y3 NX Px PZ
   have HI:=V (show IR.get L c0.toNat ⟨1,0⟩=(⟨c0.toNat,0,0,[]⟩,⟨1,0⟩)by unfold IR.get;rw [HF.out];rfl);go_wp2_with fail;refine OX.out _ _ ?_;unfold wk;exact⟨_,_,_,rfl,HG.out,⟨eA.nil _,fun _ _ _ h=>by cases h⟩,HI.out⟩
  ·skip
   clear hz Ox NX Px PZ;have HI:=V (show IR.get L c0.toNat ⟨1,0⟩=(⟨c0.toNat,(IR.kind L ⟨1,0⟩).1,0,[]⟩,(IR.kind L ⟨1,0⟩).2)by unfold IR.get;rw [HF.out];rfl);go_wp2_with fail;refine(Ds w w5 R a cap L ⟨1,0⟩ HG.out.1).mono ?_;rintro e w8 ⟨rfl,hr,hk⟩;have Qa:=V (HG.out.read hr hk);obtain⟨⟨e0',e1',e2',e3'⟩,-,y1',y2',y3'⟩:=Qa.out.2.1.four;clear hr hk e0 e1 e2 e3 y1 y2 y3;go_wp2_with fail;refine OX.out _ _ ?_;unfold wk;exact⟨_,⟨_,_,_,_⟩,_,rfl,Qa.out.Cc _,⟨eA.nil _,fun _ _ _ h=>by cases h⟩,HI.out⟩
  ·skip
   clear hz Ox NX Px PZ;have HI:=V (show IR.get L c0.toNat ⟨1,0⟩=(⟨c0.toNat,(IR.kn L 1000 ⟨1,0⟩).1,0,[]⟩,(IR.kn L 1000 ⟨1,0⟩).2)by unfold IR.get;rw [HF.out];rfl);go_wp2_with fail;refine(lS w w5 R a cap L ⟨1,0⟩ HG.out.1 1000).mono ?_;rintro e w8 ⟨rfl,hr,hk⟩;have Qa:=V (HG.out.read hr hk);obtain⟨⟨e0',e1',e2',e3'⟩,-,y1',y2',y3'⟩:=Qa.out.2.1.four;clear hr hk e0 e1 e2 e3 y1 y2 y3;go_wp2_with fail;refine OX.out _ _ ?_;unfold wk;exact⟨_,⟨_,_,_,_⟩,_,rfl,Qa.out.Cc _,⟨eA.nil _,fun _ _ _ h=>by cases h⟩,HI.out⟩
  ·skip
   clear hz Ox NX Px PZ;obtain⟨n,hn⟩:∃n,(IR.kn L 50 ⟨1,0⟩).1=n:=⟨_,rfl⟩;obtain⟨s1,OC⟩:∃s1,(IR.kn L 50 ⟨1,0⟩).2=s1:=⟨_,rfl⟩;have hn50:n <=50:=by rw [<- hn];exact IR.CY L 50 _
   have HI:=V (show IR.get L c0.toNat ⟨1,0⟩=(⟨c0.toNat,((s1.mV L n).2.kn L 1000).1,0,(s1.mV L n).1.map fun x:Nat=>(x:Int)⟩,((s1.mV L n).2.kn L 1000).2)by unfold IR.get;rw [HF.out];rw [<- hn, <- OC];rfl);have HN:=V hn;have HS1:=V OC;clear hn OC;go_wp2_with fail;refine(lS w w5 R a cap L ⟨1,0⟩ HG.out.1 50).mono ?_;rintro e w8 ⟨rfl,hr,hk⟩;have hg8:=HG.out.read hr hk;rw [HN.out];rw [HS1.out]at hg8;have Qa:=V hg8;clear hr hk hg8 e0 e1 e2 e3 y1 y2 y3;go_wp2_with fail;refine eR (fun a' w'=>∃(k:Nat) (acc:List Nat) (s:IR) (u:Value),a'=fr (gs a' 0 2 (.pointer (some ⟨X2,0,none⟩):: .int .i64 0:: .int .i64 0:: .pointer (some ⟨R,0,none⟩):: .pointer (some ⟨X6,0,none⟩)::gs a' 7 46 (.int .i64 n:: .int .i64 k::gs a' 55 49 [])))/\M9 w w' X2 R X6 a cap L c0.toNat s1 n k acc s u) (fun a' _=>(n - (intOf (a'.tmps.getD 54 undef)).toNat)) ?_ ?_
   ·exact⟨0,[],s1,_,rfl,by omega,rfl,rfl,rfl,Qa.out,ei.nil _ _⟩
   ·skip
    rintro RR a' w1 ⟨k,acc,s,u,Nm,hJ⟩ HR;dsimp only [fr,gs]at Nm;generalize slot a'=f at Nm;subst Nm;obtain⟨hk,rfl,S1,hl2,hg,ho⟩:=hJ;obtain⟨au,Ns,hu,_,OS,-⟩:=ho.fT fI;rw [bJ]at hu;subst hu;unfold maxLen at OS;have HGK:=V hg;have HO:=V ho;have S8:=V S1;have SZ:=V hl2;clear S1 hl2 hg ho;by_cases q:acc.length < n
    ·have c3:w1.cell? ⟨X6,3,none⟩=some (.slice au acc.length Ns):=HGK.out.2.1.cell 3
     go_wp2_with fail;refine eY (fun w'=>w'.cell? ⟨X6,3,none⟩=some (.slice au acc.length Ns)) 7
      (up 0 3 ((3,false)::(4,false)::(5,false)::(6,true)::[])) (by kernel_rfl) (by kernel_rfl) c3 ?_
     clear c3;iterate 3 (first | (apply sk rfl rfl;simp only [pt]) | (apply eo rfl rfl rfl;·(rintro w' t0;go_wp2;exact⟨rfl,rfl,rfl⟩)))
     refine ew rfl rfl ?_;go_wp2_with fail;refine(lS w w1.drew R a cap L s HGK.out.1.drew 1000).mono ?_;rintro e w8 ⟨rfl,hr,Pb⟩;obtain⟨m,hm⟩:∃m,(IR.kn L 1000 s).1=m:=⟨_,rfl⟩;obtain⟨s2,NC⟩:∃s2,(IR.kn L 1000 s).2=s2:=⟨_,rfl⟩;rw [hm];rw [NC]at hr;have hm1:m <=1000:=by rw [<- hm];exact IR.CY L 1000 s
     have HM:=V hm;have OF:=V NC;have hg8:=HGK.out.drew.read hr Pb;have hk18:=Pb.C2;have ho8:=HO.out.keeps hk18 (fun i hi h=>by have:=(eM HO.out hi).1;have h':i=R:=h;omega);have Qa:=V hg8;clear hm NC hr Pb hk18 hg8;go_wp2_with fail;refine⟨Qa.out.2.1.cell 3,?_⟩;refine ew rfl rfl ?_;go_wp2_with fail;refine⟨(Qa.out.2.1.alloc _).cell 3,?_⟩;refine ew rfl rfl ?_;refine fw w8 rfl _ _ 26 rfl _ 8 (by kernel_rfl) (show(prog.info? 3).map (fun i=>(i.zero,i.size,i.bytes))=some (some (.int .i64 0),1,8)by kernel_rfl) rfl (by decide) (by decide) (X6+1) (.slice au acc.length Ns) (acc.map fun x:Nat=>(x:Int)) rfl ho8 (m:Int) _ rfl rfl (by simp [fk,Value.oneCell']) rfl (by rw [bJ];omega) (by have:=Qa.out.2.1.lt;omega) ?_;intro v10 w10 Rt RP hs10;have Nl:∀i,eO (.slice au acc.length Ns) i ->X6+1 <=i:=fun i hi=>(eM ho8 hi).1;have hg10:=Qa.out.keeps RP (fun i hi=>by have:=Nl i hi;omega);generalize hA:acc.map (fun x:Nat=>(x:Int))++[(m:Int)]=P5 at Rt;have HA:=V hA;obtain⟨a9,cap9,rfl,-,-⟩:=Rt.fT fI;have c3:w10.cell? ⟨X6,3,none⟩=some (.slice au acc.length Ns):=hg10.2.1.cell 3;have y3:=hg10.2.1.free 3;have HG11:=V (hg10.Na (.slice a9 P5.length cap9));have HK11:=V (fC w10 X6 3 (.slice a9 P5.length cap9));have HO10:=V Rt;clear RP hs10 Nl hg10 ho8 Qa Rt hA;go_wp2_with fail;refine⟨c3,?_⟩;iterate 1 (first | (apply sk rfl rfl;simp only [pt]) | (apply eo rfl rfl rfl;·(rintro w' t0;go_wp2;exact⟨rfl,rfl,rfl⟩)))
     refine fJ rfl rfl ?_;go_wp2;refine⟨trivial,?_⟩;refine aA ?_;go_wp2;refine HR.out _ _ ⟨acc.length+1,acc++[m],s2, .slice a9 P5.length cap9,rfl,?_⟩ ?_
     ·have e1:n - acc.length=(n - (acc.length+1))+1:=by omega
      refine⟨by omega,by rw [ah];rfl,?_,?_,HG11.out,?_⟩
      ·rw [S8.out,e1,IR.mV,HM.out,OF.out,aL]
       rfl
      ·rw [SZ.out,e1,IR.mV,OF.out]
      ·rw [ct,List.map_singleton,HA.out]
       exact HO10.out.keeps HK11.out (fun i hi h=>by have:=(eM HO10.out hi).1;have h':i=X6:=h;omega)
     ·simp [intOf]
      omega
    ·obtain rfl:n=acc.length:=by omega
     have hL:(s1.mV L acc.length)=(acc,s):=by
      rw [Prod.ext_iff];refine⟨?_,?_⟩
      ·rw [S8.out,Nat.sub_self,IR.mV]
       simp
      ·rw [SZ.out,Nat.sub_self,IR.mV]
     replace HI:=V (show IR.get L c0.toNat ⟨1,0⟩=(⟨c0.toNat,(s.kn L 1000).1,0,acc.map fun x:Nat=>(x:Int)⟩,(s.kn L 1000).2)by rw [HI.out,hL]);clear hL S8 SZ hk;go_wp2_with fail;refine(lS w w1 R a cap L s HGK.out.1 1000).mono ?_;rintro e w8 ⟨rfl,hr,Pb⟩;have Qa:=V (HGK.out.read hr Pb);have ho8:=HO.out.keeps Pb (fun i hi h=>by have:=(eM HO.out hi).1;have h':i=R:=h;omega);obtain⟨⟨e0,e1,e2,e3⟩,-,y1,y2,y3⟩:=Qa.out.2.1.four;have ho9:=ho8.keeps (fC w8 X6 1 (.int .i64 (s.kn L 1000).1)) (fun i hi h=>by have:=(eM ho8 hi).1;have h':i=X6:=h;omega);have HO9:=V ho9;clear hr Pb ho8 ho9;go_wp2_with fail;refine OX.out _ _ ?_;unfold wk;refine⟨_,⟨_,_,_,_⟩,_,rfl,Qa.out.Cc _,⟨HO9.out.fT fI,fun b n c e=>?_⟩,HI.out⟩;have:=HO9.out.block b n c e;exact⟨by omega,this.2⟩
  ·skip
   clear hz Ox NX Px PZ;have HI:=V (show IR.get L c0.toNat ⟨1,0⟩=(⟨c0.toNat,(IR.kn L 1000 ⟨1,0⟩).1,0,[]⟩,(IR.kn L 1000 ⟨1,0⟩).2.zero L)by unfold IR.get;rw [HF.out];rfl);go_wp2_with fail;refine(lS w w5 R a cap L ⟨1,0⟩ HG.out.1 1000).mono ?_;rintro e w8 ⟨rfl,hr,hk⟩;have Qa:=V (HG.out.read hr hk);obtain⟨⟨e0',e1',e2',e3'⟩,-,y1',y2',y3'⟩:=Qa.out.2.1.four;clear hr hk e0 e1 e2 e3 y1 y2 y3;have hg9:=Qa.out.Cc (IR.kn L 1000 ⟨1,0⟩).1;go_wp2_with fail;generalize(w8.setCell ⟨X6,1,none⟩ (.int .i64 (IR.kn L 1000 ⟨1,0⟩).1))=w9 at hg9⊢;refine(wg w w9 R a cap L _ hg9.1).mono ?_;rintro e w10 ⟨rfl,hr,hk⟩;have HG10:=V (hg9.read hr hk);clear hr hk hg9 e0' e1' e2' e3' y1' y2' y3';go_wp2_with fail;refine OX.out _ _ ?_;unfold wk;exact⟨_,⟨_,_,_,_⟩,_,rfl,HG10.out,⟨eA.nil _,fun _ _ _ h=>by cases h⟩,HI.out⟩
  ·skip
   clear hz Ox NX Px PZ;have HI:=V (show IR.get L c0.toNat ⟨1,0⟩=(⟨c0.toNat,(IR.kn L 3 ⟨1,0⟩).1,((IR.kn L 3 ⟨1,0⟩).2.kn L 4294967295).1,[]⟩,((IR.kn L 3 ⟨1,0⟩).2.kn L 4294967295).2)by unfold IR.get;rw [HF.out];rfl);go_wp2_with fail;refine(lS w w5 R a cap L ⟨1,0⟩ HG.out.1 3).mono ?_;rintro e w8 ⟨rfl,hr,hk⟩;have Qa:=V (HG.out.read hr hk);obtain⟨⟨e0',e1',e2',e3'⟩,-,y1',y2',y3'⟩:=Qa.out.2.1.four;clear hr hk e0 e1 e2 e3 y1 y2 y3;have hg9:=Qa.out.Cc (IR.kn L 3 ⟨1,0⟩).1;go_wp2_with fail;generalize(w8.setCell ⟨X6,1,none⟩ (.int .i64 (IR.kn L 3 ⟨1,0⟩).1))=w9 at hg9⊢;refine(lS w w9 R a cap L _ hg9.1 4294967295).mono ?_;rintro e w10 ⟨rfl,hr,hk⟩;have HG10:=V (hg9.read hr hk);obtain⟨⟨e0,e1,e2,e3⟩,-,y1,y2,y3⟩:=HG10.out.2.1.four;clear hr hk hg9 e0' e1' e2' e3' y1' y2' y3';go_wp2_with fail;refine OX.out _ _ ?_;unfold wk;exact⟨_,⟨_,_,_,_⟩,_,rfl,HG10.out.M6 _,⟨eA.nil _,fun _ _ _ h=>by cases h⟩,HI.out⟩
  ·skip
   clear hz Ox NX Px PZ;have HI:=V (show IR.get L c0.toNat ⟨1,0⟩=(⟨c0.toNat,0,0,[]⟩,IR.zero L ⟨1,0⟩)by unfold IR.get;rw [HF.out];rfl);go_wp2_with fail;refine(wg w w5 R a cap L ⟨1,0⟩ HG.out.1).mono ?_;rintro e w8 ⟨rfl,hr,hk⟩;have Qa:=V (HG.out.read hr hk);clear hr hk e0 e1 e2 e3 y1 y2 y3;go_wp2_with fail;refine OX.out _ _ ?_;unfold wk;exact⟨_,⟨_,_,_,_⟩,_,rfl,Qa.out,⟨eA.nil _,fun _ _ _ h=>by cases h⟩,HI.out⟩
  ·skip
   clear hz Ox NX Px PZ;have HI:=V (show IR.get L c0.toNat ⟨1,0⟩=(⟨c0.toNat,(IR.rI L 32 ⟨1,0⟩).1,0,[]⟩,(IR.rI L 32 ⟨1,0⟩).2)by unfold IR.get;rw [HF.out];rfl);go_wp2_with fail;refine(xD w w5 R a cap L ⟨1,0⟩ HG.out.1 rfl 32 (by decide) (by decide)).mono ?_;rintro e w8 ⟨rfl,hr,hk⟩;have Qa:=V (HG.out.read hr hk);obtain⟨⟨e0',e1',e2',e3'⟩,-,y1',y2',y3'⟩:=Qa.out.2.1.four;clear hr hk e0 e1 e2 e3 y1 y2 y3;go_wp2_with fail;refine OX.out _ _ ?_;unfold wk;exact⟨_,⟨_,_,_,_⟩,_,rfl,Qa.out.Cc _,⟨eA.nil _,fun _ _ _ h=>by cases h⟩,HI.out⟩
  ·skip
   clear hz Ox NX Px PZ;have HI:=V (show IR.get L c0.toNat ⟨1,0⟩=(⟨c0.toNat,(IR.rI L 64 ⟨1,0⟩).1,0,[]⟩,(IR.rI L 64 ⟨1,0⟩).2)by unfold IR.get;rw [HF.out];rfl);go_wp2_with fail;refine(xD w w5 R a cap L ⟨1,0⟩ HG.out.1 rfl 64 (by decide) (by decide)).mono ?_;rintro e w8 ⟨rfl,hr,hk⟩;have Qa:=V (HG.out.read hr hk);obtain⟨⟨e0',e1',e2',e3'⟩,-,y1',y2',y3'⟩:=Qa.out.2.1.four;clear hr hk e0 e1 e2 e3 y1 y2 y3;go_wp2_with fail;refine OX.out _ _ ?_;unfold wk;exact⟨_,⟨_,_,_,_⟩,_,rfl,Qa.out.Cc _,⟨eA.nil _,fun _ _ _ h=>by cases h⟩,HI.out⟩
end
section
section
variable {w:World} {X:Nat} {t:TypeId}
theorem eS.mj {k n:Int} (h:eS w X #[.int .i64 k, .int .i64 n] t):(loadVar 52 ⟨X,0,none⟩).run prog w= .ok (.agg #[.int .i64 k, .int .i64 n]) w:=by
 have hs:(prog.underlying 52).map (fun d=>match d with | .struct _ | .array _ _=>true | _=>false)=some true:=by kernel_rfl
 obtain⟨d,h1,h2⟩:=bC.1 hs;exact bW w X t 52 _ _ d h h1 (by cases d <;>first | rfl | (exfalso;simp at h2)) (by kernel_rfl)
theorem eS.qA {b:Bool} {k n:Int} (h:eS w X #[.bool b, .int .i64 k, .int .i64 n] t):(loadVar 28 ⟨X,0,none⟩).run prog w= .ok (.agg #[.bool b, .int .i64 k, .int .i64 n]) w:=by
 have hs:(prog.underlying 28).map (fun d=>match d with | .struct _ | .array _ _=>true | _=>false)=some true:=by kernel_rfl
 obtain⟨d,h1,h2⟩:=bC.1 hs;exact bW w X t 28 _ _ d h h1 (by cases d <;>first | rfl | (exfalso;simp at h2)) (by kernel_rfl)
theorem eS.lz {u v:Value} (h:eS w X #[u,v] t):(loadVar 69 ⟨X,0,none⟩).run prog w= .ok (.agg #[u,v]) w:=by
 have hs:(prog.underlying 69).map (fun d=>match d with | .struct _ | .array _ _=>true | _=>false)=some true:=by kernel_rfl
 obtain⟨d,h1,h2⟩:=bC.1 hs;exact bW w X t 69 _ _ d h h1 (by cases d <;>first | rfl | (exfalso;simp at h2)) (by kernel_rfl)
theorem eS.Kd {a b:ByteArray} {n:Int} (h:eS w X #[.string a, .string b, .int .i64 n] t):(loadVar 71 ⟨X,0,none⟩).run prog w= .ok (.agg #[.string a, .string b, .int .i64 n]) w:=by
 have hs:(prog.underlying 71).map (fun d=>match d with | .struct _ | .array _ _=>true | _=>false)=some true:=by kernel_rfl
 obtain⟨d,h1,h2⟩:=bC.1 hs;exact bW w X t 71 _ _ d h h1 (by cases d <;>first | rfl | (exfalso;simp at h2)) (by kernel_rfl)
theorem eS.Gi {b:Bool} {k n:Int} (h:eS w X #[.bool b, .int .i64 k, .int .i64 n] t):(loadVar 73 ⟨X,0,none⟩).run prog w= .ok (.agg #[.bool b, .int .i64 k, .int .i64 n]) w:=by
 have hs:(prog.underlying 73).map (fun d=>match d with | .struct _ | .array _ _=>true | _=>false)=some true:=by kernel_rfl
 obtain⟨d,h1,h2⟩:=bC.1 hs;exact bW w X t 73 _ _ d h h1 (by cases d <;>first | rfl | (exfalso;simp at h2)) (by kernel_rfl)
theorem eS.KI {a:ByteArray} {n:Int} (h:eS w X #[.string a, .int .i64 n] t):(loadVar 75 ⟨X,0,none⟩).run prog w= .ok (.agg #[.string a, .int .i64 n]) w:=by
 have hs:(prog.underlying 75).map (fun d=>match d with | .struct _ | .array _ _=>true | _=>false)=some true:=by kernel_rfl
 obtain⟨d,h1,h2⟩:=bC.1 hs;exact bW w X t 75 _ _ d h h1 (by cases d <;>first | rfl | (exfalso;simp at h2)) (by kernel_rfl)
theorem eS.Bs {n:Int} {v:Value} (h:eS w X #[.int .i64 n,v] t):(loadVar 77 ⟨X,0,none⟩).run prog w= .ok (.agg #[.int .i64 n,v]) w:=by
 have hs:(prog.underlying 77).map (fun d=>match d with | .struct _ | .array _ _=>true | _=>false)=some true:=by kernel_rfl
 obtain⟨d,h1,h2⟩:=bC.1 hs;exact bW w X t 77 _ _ d h h1 (by cases d <;>first | rfl | (exfalso;simp at h2)) (by kernel_rfl)
theorem eS.vJ {u v:Value} (h:eS w X #[u,v] t):(loadVar 41 ⟨X,0,none⟩).run prog w= .ok (.agg #[u,v]) w:=by
 have hs:(prog.underlying 41).map (fun d=>match d with | .struct _ | .array _ _=>true | _=>false)=some true:=by kernel_rfl
 obtain⟨d,h1,h2⟩:=bC.1 hs;exact bW w X t 41 _ _ d h h1 (by cases d <;>first | rfl | (exfalso;simp at h2)) (by kernel_rfl)
theorem eS.GI {n:Int} {v:Value} (h:eS w X #[.int .i64 n,v] t):(loadVar 106 ⟨X,0,none⟩).run prog w= .ok (.agg #[.int .i64 n,v]) w:=by
 have hs:(prog.underlying 106).map (fun d=>match d with | .struct _ | .array _ _=>true | _=>false)=some true:=by kernel_rfl
 obtain⟨d,h1,h2⟩:=bC.1 hs;exact bW w X t 106 _ _ d h h1 (by cases d <;>first | rfl | (exfalso;simp at h2)) (by kernel_rfl)
theorem eS.two {x0 x1:Value} (h:eS w X #[x0,x1] t):w.cell? ⟨X,0,none⟩=some x0/\w.cell? ⟨X,1,none⟩=some x1/\w.frozen? ⟨X,0,none⟩=false/\w.frozen? ⟨X,1,none⟩=false:=⟨h.cell 0,h.cell 1,h.free 0,h.free 1⟩
theorem eS.Jg {x0 x1 x2:Value} (h:eS w X #[x0,x1,x2] t):w.cell? ⟨X,0,none⟩=some x0/\w.cell? ⟨X,1,none⟩=some x1/\w.cell? ⟨X,2,none⟩=some x2/\w.frozen? ⟨X,0,none⟩=false/\w.frozen? ⟨X,1,none⟩=false/\w.frozen? ⟨X,2,none⟩=false:=⟨h.cell 0,h.cell 1,h.cell 2,h.free 0,h.free 1,h.free 2⟩
theorem eS.nC {x0 x1:Value} (h:eS w X #[x0,x1] t) (y0 y1:Value):eS ((w.setCell ⟨X,0,none⟩ y0).setCell ⟨X,1,none⟩ y1) X #[y0,y1] t:=by simpa using (h.set 0 y0).set 1 y1
theorem eS.uS {x0 x1 x2:Value} (h:eS w X #[x0,x1,x2] t) (y0 y1 y2:Value):eS (((w.setCell ⟨X,0,none⟩ y0).setCell ⟨X,1,none⟩ y1).setCell ⟨X,2,none⟩ y2) X #[y0,y1,y2] t:=by simpa using ((h.set 0 y0).set 1 y1).set 2 y2
theorem eE (w:World) (X i:Nat) (v:Value):ep (fun k=>k=X) w (w.setCell ⟨X,i,none⟩ v):=⟨rfl,rfl,rfl,by simp,fun k _ hk=>cM w ⟨X,i,none⟩ v k hk⟩
theorem fQ (w:World) (X:Nat) (y0 y1:Value):ep (fun k=>k=X) w ((w.setCell ⟨X,0,none⟩ y0).setCell ⟨X,1,none⟩ y1):=(eE w X 0 y0).trans (eE _ X 1 y1) (fun _ h=> .inl h)
theorem kZ (w:World) (X:Nat) (y0 y1 y2:Value):ep (fun k=>k=X) w (((w.setCell ⟨X,0,none⟩ y0).setCell ⟨X,1,none⟩ y1).setCell ⟨X,2,none⟩ y2):=(fQ w X y0 y1).trans (eE _ X 2 y2) (fun _ h=> .inl h)
theorem ep.jg {w w' w2:World} {R:Nat} (h:ep (fun k=>k=R) w w') {Y:Nat} (hk:ep (fun k=>k=Y) w' w2) (hY:w.heap.size <=Y):ep (fun k=>k=R) w w2:=h.trans hk (fun i hi=> .inr (by subst hi;exact hY))
end
end
theorem yc {x y:gl} (h:y∈oneOf x):y=x/\x.has=true:=by
 unfold oneOf at h;split at h
 ·rename_i hh
  exact⟨aV.1 h,hh⟩
 ·simp at h
theorem pO {least fD:Int} {x:gl} (h:x.may least fD):ki (oneOf x)=x:=by
 obtain⟨has,mn,mx⟩:=x;unfold oneOf;cases has with
 | true=>rfl
 | false=>
  unfold gl.may at h;rw [az (by simp)]at h;obtain⟨h1,h2⟩:=h;simp only at h1 h2;rw [h1,h2];rfl
theorem yv {least fD:Int} {x:gl} (h:x.may least fD) (hn:oneOf x=[]):x=⟨false,0,0⟩:=by
 rw [<- pO h,hn];rfl
theorem sC {least fD:Int} {x y:gl} (hm:x.may least fD) (hl:least <=100000) (hmo:fD <=100000) (hy:y∈oneOf x) (r:List UInt8):gw (gR y++r)=some (y,r):=by
 obtain⟨rfl,hh⟩:=yc hy;exact Ac hh hm hl hmo r
theorem B9 {least fD:Int} {x y:gl} (hm:x.may least fD) (hl:least <=100000) (hmo:fD <=100000) (hy:y∈oneOf x) (r:List UInt8):ly (jy y++r)=some (y,r):=by
 unfold ly jy;rw [bH];simp only [fp,ao];exact sC hm hl hmo hy r
theorem BQ {m:eI} (hm:m.Kg) (ho:m.ok) (hb:∀x∈m.eF,∀y∈x.body,y.ok) (hl:(fL m).length <=8000):mS (fL m)=some m:=by
 obtain⟨h1,h2,h3,h4,h5,h6,h7,h8,h9,Sl⟩:=hm;have hlen:(qf m).length <=7992:=by
  simp only [fL,ah]at hl;have:fN.length=8:=rfl;omega
 unfold mS;rw [az (by omega)];have e0:(fL m).take 8=fN:=by
  unfold fL;exact cN (l₁:=fN)
 have e1:(fL m).drop 8=qf m:=by
  unfold fL;exact df (l₁:=fN)
 rw [aE e0,e1];have hf:(qf m).length < (fL m).length+1:=by
  simp only [fL,ah];omega
 generalize(fL m).length+1=f at hf;have hlen2:=hlen;simp only [qf,ah]at hlen2;have hstart:oK f m0 (qf m)=oK f (⟨[],[],[],⟨false,0,0⟩,⟨false,0,0⟩,[],[],[],[],[]⟩:eI) (qf m):=rfl;rw [hstart];clear hstart hlen;unfold qf at hf⊢;have v0:=jF 1 ld m.types (n:=7992) (by omega) (by omega);have l0:=mm ld m.types (fun x _=>by simp [ld]);obtain⟨f0,g0,k0⟩:=kH (no:=1) (put:=ld) (get:=pX) (l:=m.types) (m:=(⟨[],[],[],⟨false,0,0⟩,⟨false,0,0⟩,[],[],[],[],[]⟩:eI)) (m':=(⟨m.types,[],[],⟨false,0,0⟩,⟨false,0,0⟩,[],[],[],[],[]⟩:eI)) (fun x=>(⟨x,[],[],⟨false,0,0⟩,⟨false,0,0⟩,[],[],[],[],[]⟩:eI)) (fun b=>rfl) (fun h=>by rw [h]) (rfl) (fun x hx r=>Fc (h1 x hx) r) (by omega) v0 _ _ hf;rw [k0];have v1:=jF 2 od m.imports (n:=7992) (by omega) (by omega);have l1:=mm od m.imports (fun x _=>by have:=(eU x.mod.data.toList.length).1;simp only [od,pF,ah];omega);obtain⟨f1,g1,k1⟩:=kH (no:=2) (put:=od) (get:=vw) (l:=m.imports) (m:=(⟨m.types,[],[],⟨false,0,0⟩,⟨false,0,0⟩,[],[],[],[],[]⟩:eI)) (m':=(⟨m.types,m.imports,[],⟨false,0,0⟩,⟨false,0,0⟩,[],[],[],[],[]⟩:eI)) (fun x=>(⟨m.types,x,[],⟨false,0,0⟩,⟨false,0,0⟩,[],[],[],[],[]⟩:eI)) (fun b=>rfl) (fun h=>by rw [h]) (rfl) (fun x hx r=>Hw (h2 x hx) r) (by omega) v1 _ _ g0;rw [k1];have v2:=jF 3 tk m.funcs (n:=7992) (by omega) (by omega);have l2:=mm tk m.funcs (fun x _=>(eU x.toNat).1);obtain⟨f2,g2,k2⟩:=kH (no:=3) (put:=tk) (get:=wX) (l:=m.funcs) (m:=(⟨m.types,m.imports,[],⟨false,0,0⟩,⟨false,0,0⟩,[],[],[],[],[]⟩:eI)) (m':=(⟨m.types,m.imports,m.funcs,⟨false,0,0⟩,⟨false,0,0⟩,[],[],[],[],[]⟩:eI)) (fun x=>(⟨m.types,m.imports,x,⟨false,0,0⟩,⟨false,0,0⟩,[],[],[],[],[]⟩:eI)) (fun b=>rfl) (fun h=>by rw [h]) (rfl) (fun x hx r=>ur (h3 x hx) r) (by omega) v2 _ _ g1;rw [k2];have v3:=jF 4 jy (oneOf m.table) (n:=7992) (by omega) (by omega);have l3:=mm jy (oneOf m.table) (fun x _=>by simp [jy]);obtain⟨f3,g3,k3⟩:=kH (no:=4) (put:=jy) (get:=ly) (l:=(oneOf m.table)) (m:=(⟨m.types,m.imports,m.funcs,⟨false,0,0⟩,⟨false,0,0⟩,[],[],[],[],[]⟩:eI)) (m':=(⟨m.types,m.imports,m.funcs,m.table,⟨false,0,0⟩,[],[],[],[],[]⟩:eI)) (fun x=>(⟨m.types,m.imports,m.funcs,ki x,⟨false,0,0⟩,[],[],[],[],[]⟩:eI)) (fun b=>rfl) (fun h=>by rw [yv h4 h]) (by rw [pO h4]) (fun x hx r=>B9 h4 (by decide) (by decide) hx r) (by omega) v3 _ _ g2;rw [k3];have v4:=jF 5 gR (oneOf m.mem) (n:=7992) (by omega) (by omega);have l4:=mm gR (oneOf m.mem) (fun x _=>by unfold gR;split <;>simp);obtain⟨f4,g4,k4⟩:=kH (no:=5) (put:=gR) (get:=gw) (l:=(oneOf m.mem)) (m:=(⟨m.types,m.imports,m.funcs,m.table,⟨false,0,0⟩,[],[],[],[],[]⟩:eI)) (m':=(⟨m.types,m.imports,m.funcs,m.table,m.mem,[],[],[],[],[]⟩:eI)) (fun x=>(⟨m.types,m.imports,m.funcs,m.table,ki x,[],[],[],[],[]⟩:eI)) (fun b=>rfl) (fun h=>by rw [yv h5 h]) (by rw [pO h5]) (fun x hx r=>sC h5 (by decide) (by decide) hx r) (by omega) v4 _ _ g3;rw [k4];have v5:=jF 6 kS m.globals (n:=7992) (by omega) (by omega);have l5:=mm kS m.globals (fun x _=>by simp [kS,jo]);obtain⟨f5,g5,k5⟩:=kH (no:=6) (put:=kS) (get:=qs) (l:=m.globals) (m:=(⟨m.types,m.imports,m.funcs,m.table,m.mem,[],[],[],[],[]⟩:eI)) (m':=(⟨m.types,m.imports,m.funcs,m.table,m.mem,m.globals,[],[],[],[]⟩:eI)) (fun x=>(⟨m.types,m.imports,m.funcs,m.table,m.mem,x,[],[],[],[]⟩:eI)) (fun b=>rfl) (fun h=>by rw [h]) (rfl) (fun x hx r=>Ft (h6 x hx) (ho.2.2.2.2.1 x hx) r) (by omega) v5 _ _ g4;rw [k5];have v6:=jF 7 oz m.ey (n:=7992) (by omega) (by omega);have l6:=mm oz m.ey (fun x _=>by have:=(eU x.name.data.toList.length).1;simp only [oz,pF,ah];omega);obtain⟨f6,g6,k6⟩:=kH (no:=7) (put:=oz) (get:=uP) (l:=m.ey) (m:=(⟨m.types,m.imports,m.funcs,m.table,m.mem,m.globals,[],[],[],[]⟩:eI)) (m':=(⟨m.types,m.imports,m.funcs,m.table,m.mem,m.globals,m.ey,[],[],[]⟩:eI)) (fun x=>(⟨m.types,m.imports,m.funcs,m.table,m.mem,m.globals,x,[],[],[]⟩:eI)) (fun b=>rfl) (fun h=>by rw [h]) (rfl) (fun x hx r=>FW (h7 x hx) r) (by omega) v6 _ _ g5;rw [k6];have v7:=jF 9 ll m.elems (n:=7992) (by omega) (by omega);have l7:=mm ll m.elems (fun x _=>by simp [ll,nY]);obtain⟨f7,g7,k7⟩:=kH (no:=9) (put:=ll) (get:=qv) (l:=m.elems) (m:=(⟨m.types,m.imports,m.funcs,m.table,m.mem,m.globals,m.ey,[],[],[]⟩:eI)) (m':=(⟨m.types,m.imports,m.funcs,m.table,m.mem,m.globals,m.ey,m.elems,[],[]⟩:eI)) (fun x=>(⟨m.types,m.imports,m.funcs,m.table,m.mem,m.globals,m.ey,x,[],[]⟩:eI)) (fun b=>rfl) (fun h=>by rw [h]) (rfl) (fun x hx r=>EP (h8 x hx) r) (by omega) v7 _ _ g6;rw [k7];have v8:=jF 10 iK m.eF (n:=7992) (by omega) (by omega);have l8:=mm iK m.eF (fun x _=>by have:=(eU (mM x).length).1;simp only [iK,ah];omega);obtain⟨f8,g8,k8⟩:=kH (no:=10) (put:=iK) (get:=mA) (l:=m.eF) (m:=(⟨m.types,m.imports,m.funcs,m.table,m.mem,m.globals,m.ey,m.elems,[],[]⟩:eI)) (m':=(⟨m.types,m.imports,m.funcs,m.table,m.mem,m.globals,m.ey,m.elems,m.eF,[]⟩:eI)) (fun x=>(⟨m.types,m.imports,m.funcs,m.table,m.mem,m.globals,m.ey,m.elems,x,[]⟩:eI)) (fun b=>rfl) (fun h=>by rw [h]) (rfl) (fun x hx r=>Fm (h9 x hx) (hb x hx) (CI hx hl) r) (by omega) v8 _ _ g7;rw [k8];have v9:=jF 11 oy m.eP (n:=7992) (by omega) (by omega);have l9:=mm oy m.eP (fun x _=>by simp [oy,nY]);rw [show gA 11 oy m.eP=gA 11 oy m.eP++[]from(bR _).symm]at g8⊢;obtain⟨f9,g9,k9⟩:=kH (no:=11) (put:=oy) (get:=wI) (l:=m.eP) (m:=(⟨m.types,m.imports,m.funcs,m.table,m.mem,m.globals,m.ey,m.elems,m.eF,[]⟩:eI)) (m':=(⟨m.types,m.imports,m.funcs,m.table,m.mem,m.globals,m.ey,m.elems,m.eF,m.eP⟩:eI)) (fun x=>(⟨m.types,m.imports,m.funcs,m.table,m.mem,m.globals,m.ey,m.elems,m.eF,x⟩:eI)) (fun b=>rfl) (fun h=>by rw [h]) (rfl) (fun x hx r=>IZ (Sl x hx) r) (by omega) v9 _ _ g8;rw [k9];obtain⟨f',rfl⟩:∃f',f9=f'+1:=⟨f9 - 1,by simp at g9;omega⟩;rfl
structure nt where
 op:Int
 kind:Int
 fb:Nat
 dead:Bool
deriving DecidableEq
structure eX where
 eu:List Int
 fc:List nt
 bad:Bool
deriving DecidableEq
def eX.need (c:eX) (ok:Bool):eX:={c with bad:=c.bad || !ok}
def eX.push (c:eX) (l:List Int):eX:={c with eu:=c.eu++l}
def eX.top (c:eX):nt:=c.fc.getLast?.getD ⟨0,0,0,false⟩
def eX.pop (c:eX) (want:Int):Int × eX:=
 if c.eu.length=c.top.fb then(want,c.need c.top.dead)
 else if c.eu.getLast?.getD 0=0 then(want,{c with eu:=c.eu.dropLast})
 else(c.eu.getLast?.getD 0,({c with eu:=c.eu.dropLast}:eX).need (want==0 || c.eu.getLast?.getD 0==want))
def eX.oo (c:eX):List Int ->eX
 | []=>c
 | k::l=>(c.pop k).2.oo l
def eX.gd (c:eX) (l:List Int):eX:=c.oo l.reverse
def gS (k:Int):List Int:=if k=0 then []else [k]
def eX.begin (c:eX) (op kind:Int):eX:={c with fc:=c.fc++[⟨op,kind,c.eu.length,false⟩]}
def eX.DL (c:eX):eX:=(c.gd (gS c.top.kind)).need ((c.gd (gS c.top.kind)).eu.length==c.top.fb)
def eX.shut (c:eX):nt × eX:=(c.top,{c.DL with fc:=c.DL.fc.dropLast})
def eX.dead (c:eX):eX:={c with eu:=c.eu.take c.top.fb,fc:=c.fc.dropLast++[{c.top with dead:=true}]}
def eX.zw (c:eX) (n:Int):nt:=(c.fc[c.fc.length - 1 - n.toNat]?).getD ⟨0,0,0,false⟩
def eX.label (c:eX) (n:Int):List Int × eX:=
 if(c.fc.length:Int) <=n then([],{c with bad:=true})else(if(c.zw n).op=3 then []else gS (c.zw n).kind,c)
def typeOf (m:eI) (t:Int):gC × Bool:=if t < 0\/(m.types.length:Int) <=t then(⟨[],[]⟩,false)else((m.types[t.toNat]?).getD ⟨[],[]⟩,true)
def gM (m:eI) (f:Int):gC × Bool:=
 typeOf m (if f < m.imports.length then((m.imports[f.toNat]?).map kj.type).getD 0 else if f - m.imports.length < m.funcs.length then(m.funcs[(f - m.imports.length).toNat]?).getD 0 else -1)
def eX.calls (c:eX) (t:gC × Bool):eX:=((c.need t.2).gd t.1.params).push t.1.results
def eX.D7 (c:eX) (want:List Int):List Int ->eX
 | []=>c
 | n::l=>((c.label n).2.need (((c.label n).1.length==want.length)&&((c.label n).1.length==0 || (c.label n).1.head?==want.head?))).D7 want l
def eX.table (c:eX) (x:fa):eX:=((((c.pop 1).2.label x.a).2.D7 ((c.pop 1).2.label x.a).1 x.l).gd ((c.pop 1).2.label x.a).1).dead
def eX.control (m:eI) (c:eX) (x:fa):Option eX:=
 if x.op=0 then some c.dead
 else if x.op=1 then some c
 else if x.op=2\/x.op=3 then some (c.begin x.op x.a)
 else if x.op=4 then some ((c.pop 1).2.begin x.op x.a)
 else if x.op=5 then some (c.shut.2.begin 5 c.shut.1.kind)
 else if x.op=11 then some ((c.shut.2.need (c.shut.1.op !=4 || c.shut.1.kind==0)).push (gS c.shut.1.kind))
 else if x.op=12 then some ((c.label x.a).2.gd (c.label x.a).1).dead
 else if x.op=13 then some ((((c.pop 1).2.label x.a).2.gd ((c.pop 1).2.label x.a).1).push ((c.pop 1).2.label x.a).1)
 else if x.op=14 then some (c.table x)
 else if x.op=15 then some (c.gd (gS ((c.fc.head?.map nt.kind).getD 0))).dead
 else if x.op=16 then some (c.calls (gM m x.a))
 else if x.op=17 then some (((c.need m.table.has).pop 1).2.calls (typeOf m x.a))
 else none
def eX.local (ls:List Int) (c:eX) (n:Int):Int × eX:=if(ls.length:Int) <=n then(0,{c with bad:=true})else((ls[n.toNat]?).getD 0,c)
def eX.global (m:eI) (c:eX) (n:Int):jY × eX:=if(m.globals.length:Int) <=n then(⟨false,⟨0,0⟩⟩,{c with bad:=true})else((m.globals[n.toNat]?).getD ⟨false,⟨0,0⟩⟩,c)
def eX.access (m:eI) (c:eX) (x:fa) (align:Int) (takes makes:List Int):eX:=((c.need (m.mem.has&&decide (x.a <=align))).gd takes).push makes
def eX.plain (m:eI) (ls:List Int) (c:eX) (x:fa):eX:=
 if x.op=26 then(c.pop 0).2
 else if x.op=27 then((((c.pop 1).2.pop 0).2.pop ((c.pop 1).2.pop 0).1).2).push [(((c.pop 1).2.pop 0).2.pop ((c.pop 1).2.pop 0).1).1]
 else if x.op=32 then(c.local ls x.a).2.push [(c.local ls x.a).1]
 else if x.op=33 then((c.local ls x.a).2.pop (c.local ls x.a).1).2
 else if x.op=34 then(((c.local ls x.a).2.pop (c.local ls x.a).1).2.local ls x.a).2.push [(((c.local ls x.a).2.pop (c.local ls x.a).1).2.local ls x.a).1]
 else if x.op=35 then(c.global m x.a).2.push [(c.global m x.a).1.init.kind]
 else if x.op=36 then(((c.global m x.a).2.need (c.global m x.a).1.isVar).pop (c.global m x.a).1.init.kind).2
 else if x.op=40 then c.access m x 2 [1] [1]
 else if x.op=41 then c.access m x 3 [1] [2]
 else if x.op=44\/x.op=45 then c.access m x 0 [1] [1]
 else if x.op=54 then c.access m x 2 [1,1] []
 else if x.op=55 then c.access m x 3 [1,2] []
 else if x.op=58 then c.access m x 0 [1,1] []
 else if x.op=63 then c.access m x 0 [] [1]
 else if x.op=64 then c.access m x 0 [1] [1]
 else if x.op=65 then c.push [1]
 else if x.op=66 then c.push [2]
 else((c.need (fh x.op).2.2).gd (fh x.op).1).push [(fh x.op).2.1]
def eX.step (m:eI) (ls:List Int) (c:eX) (x:fa):eX:=(c.control m x).getD (c.plain m ls x)
def eX.run (m:eI) (ls:List Int):eX ->List fa ->Option eX
 | c,[]=>some c
 | c,x::l=>if(c.step m ls x).bad=true then none else eX.run m ls (c.step m ls x) l
def gb (m:eI) (k:Int):Bool:=
 if k < 0\/(m.eF.length:Int) <=k\/(m.funcs.length:Int) <=k then false
 else
  let code:=(m.eF[k.toNat]?).getD ⟨[],[]⟩
  let t:=typeOf m ((m.funcs[k.toNat]?).getD 0)
  if t.2=false\/(fM code.body).isSome=false then false
  else
   let ls:=t.1.params++code.locals
   match eX.run m ls (({eu:=[],fc:=[],bad:=false}:eX).begin 2 (t.1.results.head?.getD 0)) code.body with
   | none=>false
   | some c=> !c.shut.2.bad&&decide (ls.length <=32)
theorem eX.nB (c:eX) (b:Bool):(c.need b).fc=c.fc:=rfl
theorem eX.yh (c:eX) (b:Bool):(c.need b).eu=c.eu:=rfl
theorem eX.vX (c:eX) (l:List Int):(c.push l).fc=c.fc:=rfl
theorem eX.qy (c:eX) (k:Int):(c.pop k).2.fc=c.fc:=by
 unfold eX.pop;split
 ·rfl
 ·split <;>rfl
theorem eX.rZ:∀(l:List Int) (c:eX),(c.oo l).fc=c.fc
 | [],c=>rfl
 | k::l,c=>by rw [eX.oo,eX.rZ l,eX.qy]
theorem eX.iI (c:eX) (l:List Int):(c.gd l).fc=c.fc:=eX.rZ _ _
def eX.sound (c:eX):Prop:=(∀x∈c.fc,x.fb <=c.eu.length)/\c.fc.Pairwise fun a b=>a.fb <=b.fb
theorem eX.KJ {c:eX} (h:c.fc≠[]):c.top∈c.fc:=by
 unfold eX.top;rw [List.getLast?_eq_some_getLast h];exact List.getLast_mem h
theorem eX.sound.top {c:eX} (h:c.sound) (hn:c.fc≠[]):c.top.fb <=c.eu.length:=h.1 _ (eX.KJ hn)
theorem eX.sound.le_top {c:eX} (h:c.sound) (hn:c.fc≠[]):∀x∈c.fc,x.fb <=c.top.fb:=by
 intro x hx;obtain⟨l,t,hl⟩:∃l t,c.fc=l++[t]:=⟨c.fc.dropLast,c.fc.getLast hn,(dg hn).symm⟩;have ht:c.top=t:=by
  unfold eX.top;rw [hl];simp
 rw [ht];rw [hl]at hx;have hp:=h.2;rw [hl,db]at hp;rcases bU.1 hx with h1 | h1
 ·exact hp.2.2 x h1 t (by simp)
 ·rw [aV.1 h1]
  exact ag _
theorem eX.sound.pop {c:eX} (h:c.sound) (hn:c.fc≠[]) (k:Int):(c.pop k).2.sound:=by
 have ht:=h.top hn;have hle:=h.le_top hn;unfold eX.pop;split
 ·exact h
 ·rename_i Ox
  have key:(({c with eu:=c.eu.dropLast}:eX)).sound:=⟨fun x hx=>by
   have:=hle x hx;simp only [dx];omega,h.2⟩
  split
  ·exact key
  ·exact key
theorem eX.sound.oo:∀(l:List Int) {c:eX},c.sound ->c.fc≠[] ->(c.oo l).sound
 | [],_,h,_=>h
 | k::l,c,h,hn=>eX.sound.oo l (h.pop hn k) (by rw [eX.qy];exact hn)
theorem eX.sound.gd {c:eX} (h:c.sound) (hn:c.fc≠[]) (l:List Int):(c.gd l).sound:=eX.sound.oo _ h hn
theorem eX.sound.push {c:eX} (h:c.sound) (l:List Int):(c.push l).sound:=⟨fun x hx=>by
 have:=h.1 x hx;simp only [eX.push,ah];omega,h.2⟩
theorem eX.sound.begin {c:eX} (h:c.sound) (op kind:Int):(c.begin op kind).sound:=by
 refine⟨fun x hx=>?_,?_⟩
 ·rcases bU.1 hx with h1 | h1
  ·exact h.1 x h1
  ·rw [aV.1 h1]
   exact ag _
 ·show(c.fc++[_]).Pairwise _
  rw [db];exact⟨h.2,by simp,fun a ha b hb=>by rw [aV.1 hb];exact h.1 a ha⟩
def eI.lists (m:eI):Prop:=
 ((m.types.length <=16/\∀x∈m.types,x.may)/\(m.imports.length <=16/\∀x∈m.imports,x.may)/\((m.funcs.length:Int) <=16 - m.imports.length/\∀n∈m.funcs,gh n))/\
 (m.globals.length <=16/\∀x∈m.globals,x.init.may)/\(m.ey.length <=16/\∀x∈m.ey,x.may)/\(m.elems.length <=16/\∀x∈m.elems,x.may)/\(m.eP.length <=16/\∀x∈m.eP,x.may)
def eI.uF (m:eI):Prop:=m.eF.length=m.funcs.length/\m.eF.length <=16/\∀x∈m.eF,x.may
def eI.xw (m:eI):Prop:=m.uF/\m.lists/\m.table.may 16 1000/\m.mem.may 16 65536
def eI.may (m:eI):Prop:=m.xw/\(fL m).length <=8000
instance (t:gC):Decidable t.may:=by unfold gC.may;infer_instance
instance (x:kj):Decidable x.may:=by unfold kj.may;infer_instance
instance (x:jr):Decidable x.may:=by unfold jr.may;infer_instance
instance (x:jI):Decidable x.may:=by unfold jI.may;infer_instance
instance (x:iq):Decidable x.may:=by unfold iq.may;infer_instance
instance (x:ij):Decidable x.may:=by unfold ij.may;infer_instance
instance (m:eI):Decidable m.lists:=by unfold eI.lists;infer_instance
instance (m:eI):Decidable m.uF:=by unfold eI.uF;infer_instance
instance (m:eI):Decidable m.xw:=by unfold eI.xw;infer_instance
instance (m:eI):Decidable m.may:=by unfold eI.may;infer_instance
theorem eI.xw.Kg {m:eI} (h:m.xw):m.Kg:=by
 obtain⟨⟨_,_,h9⟩,⟨⟨⟨_,h1⟩,⟨_,h2⟩,_,h3⟩,⟨_,h6⟩,⟨_,h7⟩,⟨_,h8⟩,_,Sl⟩,h4,h5⟩:=h;exact⟨h1,h2,h3,h4,h5,h6,h7,h8,h9,Sl⟩
theorem D5 {α:Type} (put:α ->List UInt8) (k:Nat):∀l:List α,(∀x∈l,(put x).length <=k) ->((l.map put).flatten).length <=k*l.length
 | [],_=>by simp
 | x::l,h=>by
  have h1:=h x (by simp);have h2:=D5 put k l (fun y hy=>h y (by simp [hy]));simp only [bF,bO,ah,aD];rw [Nat.mul_add];omega
theorem jK {α:Type} (put:α ->List UInt8) (k n:Nat) (l:List α) (h:∀x∈l,(put x).length <=k) (hl:l.length <=n):(ix put l).length <=10+k*n:=by
 have h1:=D5 put k l h;have h2:=(eU l.length).2;have h3:k*l.length <=k*n:=dN _ hl;simp only [ix,ah];omega
theorem n8 {α:Type} (no:UInt8) (put:α ->List UInt8) (k n:Nat) (l:List α) (h:∀x∈l,(put x).length <=k) (hl:l.length <=n):(gA no put l).length <=21+k*n:=by
 cases l with
 | nil=>simp [gA]
 | cons x l=>
  have h1:=jK put k n _ h hl;have h2:=(eU (ix put (x::l)).length).2;simp only [gA,aD,ah]at h1 h2⊢;omega
theorem IJ {t:gC} (h:t.may):(ld t).length <=100:=by
 obtain⟨⟨h1,_⟩,h2,_⟩:=h;have a:=jK jo 1 32 t.params (fun x _=>by simp [jo]) h1;have b:=jK jo 1 1 t.results (fun x _=>by simp [jo]) h2;simp only [ld,aD,ah];omega
theorem sN (n:Int):(tk n).length <=10:=(eU n.toNat).2
theorem oq {s:ByteArray} (h:kr s):(pF s).length <=26:=by
 have a:=(eU s.data.toList.length).2;have:=h.2.1;simp only [pF,ah];omega
theorem JM {x:kj} (h:x.may):(od x).length <=100:=by
 have a:=oq h.1;have b:=oq h.2.1;have c:=sN x.type;simp only [od,aD,ah];omega
theorem rQ (x:gl):(gR x).length <=30:=by
 have a:=(eU x.min.toNat).2;have b:=(eU x.max.toNat).2;unfold gR;split
 ·simp only [aD];omega
 ·simp only [aD,ah];omega
theorem yj (x:gl):(jy x).length <=31:=by
 have:=rQ x;simp only [jy,aD];omega
theorem AM (n:Int) (h:iV n) (op:Int) (ho:op=65\/op=66):(iH ⟨op,n,0,[]⟩).length <=11:=by
 have s:=(uL h.1 h.2).2;rcases ho with rfl | rfl
 ·have:gy ⟨65,n,0,[]⟩=iG n:=rfl
  rw [iH,this,aD];omega
 ·have:gy ⟨66,n,0,[]⟩=iG n:=rfl
  rw [iH,this,aD];omega
theorem tp {v:fi} (h:v.ok):(mI v).length <=12:=by
 have:=AM v.n h.2 (if v.kind=2 then 66 else 65) (by split <;>simp);simp only [mI,ah,aB];omega
theorem IV {x:jY} (h:x.init.ok):(kS x).length <=14:=by
 have:=tp h;simp only [kS,jo,ah,aD,aH];omega
theorem JB {x:jr} (h:x.may):(oz x).length <=100:=by
 have a:=oq h.1;have c:=sN x.func;simp only [oz,aD,ah];omega
theorem qE {n:Int} (h:mN n):(nY n).length <=13:=by
 have:=tp (v:=⟨1,n⟩) ⟨⟨by show(-9223372036854775808:Int) <=1;decide,by show(1:Int) <=9223372036854775807;decide⟩,by have:=h.1;show(-9223372036854775808:Int) <=n;omega,by have:=h.2;show n <=(9223372036854775807:Int);omega⟩;simp only [nY,aD];omega
theorem GC {x:jI} (h:x.may):(ll x).length <=600:=by
 have a:=qE h.1;have b:=jK tk 10 50 x.funcs (fun y _=>sN y) h.2.1;simp only [ll,ah];omega
theorem Ki {x:iq} (h:x.may):(oy x).length <=1100:=by
 have a:=qE h.1;have b:=(eU x.bytes.length).2;have:=h.2;simp only [oy,ah];omega
theorem Jv (x:Nat × Int):(zC x).length <=11:=by
 have:=(eU x.1).2;simp only [zC,jo,ah,aD,aH];omega
theorem wq {l:List Int} (h:l.length <=32):(kJ l).length <=400:=by
 have h1:=pT l;have:=jK zC 11 32 (gO l) (fun x _=>Jv x) (by omega);simp only [kJ];omega
def lj (x:gl):Bool:=x.has&&(decide (0 <=x.max)&&decide (x.max < x.min))
def eI.Ly (m:eI):Int:=m.imports.length+m.funcs.length
def mr (m:eI) (t:Int):Bool:=decide ((m.types.length:Int) <=t)
def ml (m:eI) (f:Int):Bool:=decide (m.Ly <=f)
def zm (m:eI) (pre:List jr) (x:jr):Bool:=ml m x.func || pre.any fun y=>x.name.toList==y.name.toList
def mX (m:eI):List jr ->List jr ->Bool
 | _,[]=>false
 | pre,x::l=>zm m pre x || mX m (pre++[x]) l
def zE (m:eI):Bool:=mX m [] m.ey
def Ar (m:eI):Bool:=m.elems.any fun x=>x.funcs.any fun f=>ml m f
def jz (m:eI):Nat ->Bool
 | 0=>true
 | k+1=>jz m k&&gb m k
def iT (m:eI):Int:=
 if decide m.may=false then 0
 else if(m.imports.any fun x=>mr m x.type)=true then 2
 else if(m.funcs.any fun t=>mr m t)=true then 3
 else if lj m.table=true then 4
 else if lj m.mem=true then 5
 else if zE m=true then 7
 else if m.elems.length≠0/\m.table.has=false then 9
 else if Ar m=true then 9
 else if jz m m.eF.length=false then 10
 else if m.eP.length≠0/\m.mem.has=false then 11
 else -1
theorem sz (m:eI) (x:jr):∀(l pre:List jr),mX m pre (l++[x])=(mX m pre l || zm m (pre++l) x)
 | [],pre=>by simp [mX]
 | y::l,pre=>by
  simp only [bH,mX,sz m x l (pre++[y]),aL,Bool.or_assoc,bY]
theorem fH {α:Type} {k:Nat} {enc:α ->List Value} {w:World} {v:Value} {l:List α} (h:eA k enc w v l):∃a cap,v= .slice a l.length cap/\l.length <=cap/\cap <=9223372036854775807:=by
 obtain⟨a,cap,hv,h1,h2,_⟩:=h;exact⟨a,cap,hv,h1,h2⟩
theorem xA {w:World} {v:Value} {l:List UInt8} (h:eZ w v l):∃a cap,v= .slice a l.length cap/\l.length <=cap/\cap <=9223372036854775807:=by
 obtain⟨a,cap,hv,h1,h2,_⟩:=h;exact⟨a,cap,hv,h1,h2⟩
theorem boxed {w w':World} {F:Value} {t:TypeId} (h:Below (w.alloc (.cells #[F] t)).heap.size (w.alloc (.cells #[F] t)) w'):w'.cell? ⟨w.heap.size,0,none⟩=some F/\Below w.heap.size w w':=
 ⟨by rw [h.cell (by simp),bL];rfl,((an _ _).alloc (ag _) _).trans (h.mono (by simp))⟩
theorem Eo (p:Int ->Bool) (v:Value) (l:List Int) (w:World) (hl:eA 1 fk w v l) (Nq:Nat) (cs:Array Value)
  (hE:∀args w,(callFunc Nq args).run prog w= .ok (.enter Nq args) w)
  (hp:∀e∈l,∀w',Below w.heap.size w w' ->Calls prog Nq (#[.int .i64 e]++cs) w' (eL (p e) w')):
  Calls prog 112 #[v, .func (.func Nq) #[] cs] w (kp p l w):=by
 have HP:=V hp;have HI:=V hl;obtain⟨a,cap,rfl,h1,h2,_⟩:=id hl;unfold maxLen at h2;clear hl hp;go_enter func112,ntmps112;go_wp2_with fail;refine eR (fun a' w'=>∃(k:Nat),a'=fr (.slice a l.length cap:: .func (.func Nq) #[] cs::gs a' 2 5 (.int .i64 l.length:: .int .i64 k::gs a' 9 10 []))/\qP p l w w' k) (fun a' _=>(l.length - (intOf (a'.tmps.getD 8 undef)).toNat)) ?_ ?_
 ·exact⟨0,rfl,by omega,fun i hi=>by omega,an _ _⟩
 ·skip
  rintro R a' w1 ⟨k,Nm,hJ⟩ HR;dsimp only [fr,gs]at Nm;generalize slot a'=f at Nm;subst Nm;obtain⟨hk,hm,hb⟩:=hJ;have N1:=V hm;clear hm;by_cases N8:k < l.length;rotate_left
  ·obtain rfl:k=l.length:=by omega
   go_wp2;go_ret;exact⟨by rw [ia N1.out];rfl,hb⟩
  obtain⟨e,he⟩:∃e,l[k]?=some e:=⟨_,aq N8⟩;obtain⟨a',NK,hv,_,_,Nk⟩:=HI.out.below (hb.mono (ag _));injection hv with e1 e2 e3;subst e1 e3;obtain⟨b,off,rfl,Nu,hc⟩:=Nk k e he;have c0:=hc 0 _ rfl;rw [aJ,aW]at c0;have Nv:=HP.out e (aN he) w1 hb;have HE:=V he;clear Nk e2 he hc;cases hq:p e
  all_goals
   rw [hq]at Nv;have HQ:=V hq;clear hq;go_wp2_with fail;refine Nv.mono ?_;rintro x w2 ⟨rfl,No⟩;replace hb:=ej hb No;clear Nv No c0;go_wp2_with fail
  ·refine HR.out _ _ ⟨k+1,rfl,by omega,?_,hb⟩ ?_
   ·intro i hi d hd
    rcases bz i k with h | h
    ·exact N1.out i h d hd
    ·obtain rfl:i=k:=by omega
     rw [HE.out]at hd;injection hd with hd;rw [<- hd];exact HQ.out
   ·simp [intOf]
    omega
  ·go_ret
   exact⟨by rw [iF HE.out HQ.out N1.out];rfl,hb⟩
theorem rk (p:Int ->Bool) (v:Value) (l:List Int) (w:World) (hl:eA 1 fk w v l) (Nq:Nat) (cs:Array Value)
  (hE:∀args w,(callFunc Nq args).run prog w= .ok (.enter Nq args) w)
  (hp:∀e∈l,∀w',Below w.heap.size w w' ->Calls prog Nq (#[.int .i64 e]++cs) w' (eL (p e) w')):
  Calls prog 75 #[v, .func (.func Nq) #[] cs] w (eL (l.any p) w):=by
 go_enter func75,ntmps75;go_wp2_with fail;refine(Eo p v l _ hl Nq cs hE hp).mono ?_;rintro x w2 ⟨rfl,hb⟩;clear hE;go_wp2;go_ret;exact⟨by rw [<- iQ];rfl,hb⟩
theorem Ce (b:Bool) (n:Int) (Nq:Nat) (cs:Array Value) (X:Nat) (w:World)
  (hE:∀args w,(callFunc Nq args).run prog w= .ok (.enter Nq args) w) (hX:w.cell? ⟨X,0,none⟩=some (.func (.func Nq) #[] cs))
  (hp:∀w',Below w.heap.size w w' ->Calls prog Nq (#[.int .i64 n]++cs) w' (eL b w')):
  Calls prog 143 #[.int .i64 n, .pointer (some ⟨X,0,none⟩)] w (eL (!b) w):=by
 have Nu:=aO w _ hX;have HP:=V hp;clear hp;go_enter func143,ntmps143;go_wp2_with fail;refine(HP.out _ (an _ _)).mono ?_;rintro x w2 ⟨rfl,hb⟩;clear hE hX;go_wp2;go_ret;exact⟨rfl,hb⟩
theorem vM (p:Int ->Bool) (v:Value) (l:List Int) (w:World) (hl:eA 1 fk w v l) (Nq:Nat) (fD:Int)
  (hE:∀args w,(callFunc Nq args).run prog w= .ok (.enter Nq args) w)
  (hp:∀e∈l,∀w',Below w.heap.size w w' ->Calls prog Nq #[.int .i64 e] w' (eL (p e) w')):
  Calls prog 104 #[v, .int .i64 fD, .func (.func Nq) #[] #[]] w (eL (decide ((l.length:Int) <=fD)&&l.all p) w):=by
 have HP:=V hp;obtain⟨a,cap,rfl,h1,h2⟩:∃a cap,v= .slice a l.length cap/\l.length <=cap/\cap <=9223372036854775807:=fH hl;have HL:=V hl;clear hp hl;by_cases q:(l.length:Int) <=fD
 ·have f:decide ((l.length:Int) <=fD)=true:=ay q
  go_enter func104,ntmps104;go_wp2_with fail;refine bZ (rk (fun e=> !p e) _ l _ (HL.out.below ((an _ _).alloc (ag _) _)) 143 #[.pointer (some ⟨w.heap.size,0,none⟩)] (fun args w=>by rfl) ?_) ?_
  ·intro e he w' hw'
   obtain⟨hX,hw⟩:=boxed hw';exact Ce (p e) _ Nq #[] _ w' hE hX (fun w2 h2=>by simpa using HP.out e he w2 (hw.trans (h2.mono hw.size)))
  rintro x w2 ⟨rfl,hb⟩;clear hE;have HF:=V f;clear f;have f:decide ((l.length:Int) <=fD)=true:=HF.out;go_wp2;go_ret;refine⟨?_,((an _ _).alloc (ag _) _).trans (hb.mono (by simp))⟩;have e1:l.all p= !(l.any fun e=> !p e):=by rw [bP];simp
  rw [f,e1,cn];rfl
 ·have f:decide ((l.length:Int) <=fD)=false:=aw q
  go_enter func104,ntmps104;go_wp2;go_ret;exact⟨by first | rfl | (rw [f];rfl),(an _ _).alloc (ag _) _⟩
theorem JN (p:kj ->Bool) (v:Value) (l:List kj) (w:World) (hl:eA 3 rR w v l) (Nq:Nat) (cs:Array Value)
  (hE:∀args w,(callFunc Nq args).run prog w= .ok (.enter Nq args) w)
  (hp:∀e∈l,∀w',Below w.heap.size w w' ->Calls prog Nq (#[.agg #[.string e.mod, .string e.name, .int .i64 e.type]]++cs) w' (eL (p e) w')):
  Calls prog 111 #[v, .func (.func Nq) #[] cs] w (kp p l w):=by
 have HP:=V hp;have HI:=V hl;obtain⟨a,cap,rfl,h1,h2,_⟩:=id hl;unfold maxLen at h2;clear hl hp;go_enter func111,ntmps111;go_wp2_with fail;refine eR (fun a' w'=>∃(k:Nat),a'=fr (.slice a l.length cap:: .func (.func Nq) #[] cs::gs a' 2 5 (.int .i64 l.length:: .int .i64 k::gs a' 9 10 []))/\qP p l w w' k) (fun a' _=>(l.length - (intOf (a'.tmps.getD 8 undef)).toNat)) ?_ ?_
 ·exact⟨0,rfl,by omega,fun i hi=>by omega,an _ _⟩
 ·skip
  rintro R a' w1 ⟨k,Nm,hJ⟩ HR;dsimp only [fr,gs]at Nm;generalize slot a'=f at Nm;subst Nm;obtain⟨hk,hm,hb⟩:=hJ;have N1:=V hm;clear hm;by_cases N8:k < l.length;rotate_left
  ·obtain rfl:k=l.length:=by omega
   go_wp2;go_ret;exact⟨by rw [ia N1.out];rfl,hb⟩
  obtain⟨e,he⟩:∃e,l[k]?=some e:=⟨_,aq N8⟩;obtain⟨a',NK,hv,_,_,Nk⟩:=HI.out.below (hb.mono (ag _));injection hv with e1 e2 e3;subst e1 e3;obtain⟨b,off,rfl,Nu,hc⟩:=Nk k e he;have c0:=hc 0 _ rfl;have c1:=hc 1 _ rfl;have c2:=hc 2 _ rfl;rw [aJ]at c0;have Nv:=HP.out e (aN he) w1 hb;have HE:=V he;clear Nk e2 he hc;cases hq:p e
  all_goals
   rw [hq]at Nv;have HQ:=V hq;clear hq;go_wp2_with fail;refine Nv.mono ?_;rintro x w2 ⟨rfl,No⟩;replace hb:=ej hb No;clear Nv No c0 c1 c2;go_wp2_with fail
  ·refine HR.out _ _ ⟨k+1,rfl,by omega,?_,hb⟩ ?_
   ·intro i hi d hd
    rcases bz i k with h | h
    ·exact N1.out i h d hd
    ·obtain rfl:i=k:=by omega
     rw [HE.out]at hd;injection hd with hd;rw [<- hd];exact HQ.out
   ·simp [intOf]
    omega
  ·go_ret
   exact⟨by rw [iF HE.out HQ.out N1.out];rfl,hb⟩
theorem Bl (p:kj ->Bool) (v:Value) (l:List kj) (w:World) (hl:eA 3 rR w v l) (Nq:Nat) (cs:Array Value)
  (hE:∀args w,(callFunc Nq args).run prog w= .ok (.enter Nq args) w)
  (hp:∀e∈l,∀w',Below w.heap.size w w' ->Calls prog Nq (#[.agg #[.string e.mod, .string e.name, .int .i64 e.type]]++cs) w' (eL (p e) w')):
  Calls prog 73 #[v, .func (.func Nq) #[] cs] w (eL (l.any p) w):=by
 go_enter func73,ntmps73;go_wp2_with fail;refine(JN p v l _ hl Nq cs hE hp).mono ?_;rintro x w2 ⟨rfl,hb⟩;clear hE;go_wp2;go_ret;exact⟨by rw [<- iQ];rfl,hb⟩
theorem Gh (b:Bool) (s1 s2:ByteArray) (n:Int) (Nq:Nat) (cs:Array Value) (X:Nat) (w:World)
  (hE:∀args w,(callFunc Nq args).run prog w= .ok (.enter Nq args) w) (hX:w.cell? ⟨X,0,none⟩=some (.func (.func Nq) #[] cs))
  (hp:∀w',Below w.heap.size w w' ->Calls prog Nq (#[.agg #[.string s1, .string s2, .int .i64 n]]++cs) w' (eL b w')):
  Calls prog 259 #[.agg #[.string s1, .string s2, .int .i64 n], .pointer (some ⟨X,0,none⟩)] w (eL (!b) w):=by
 have Nu:=aO w _ hX;have HP:=V hp;clear hp;go_enter func259,ntmps259;go_wp2_with fail;refine(HP.out _ ((an _ _).alloc (ag _) _)).mono ?_;rintro x w2 ⟨rfl,hb⟩;clear hE hX;go_wp2;go_ret;exact⟨rfl,((an _ _).alloc (ag _) _).trans (hb.mono (by simp))⟩
theorem Gt (p:kj ->Bool) (v:Value) (l:List kj) (w:World) (hl:eA 3 rR w v l) (Nq:Nat) (fD:Int)
  (hE:∀args w,(callFunc Nq args).run prog w= .ok (.enter Nq args) w)
  (hp:∀e∈l,∀w',Below w.heap.size w w' ->Calls prog Nq #[.agg #[.string e.mod, .string e.name, .int .i64 e.type]] w' (eL (p e) w')):
  Calls prog 152 #[v, .int .i64 fD, .func (.func Nq) #[] #[]] w (eL (decide ((l.length:Int) <=fD)&&l.all p) w):=by
 have HP:=V hp;obtain⟨a,cap,rfl,h1,h2⟩:∃a cap,v= .slice a l.length cap/\l.length <=cap/\cap <=9223372036854775807:=fH hl;have HL:=V hl;clear hp hl;by_cases q:(l.length:Int) <=fD
 ·have f:decide ((l.length:Int) <=fD)=true:=ay q
  go_enter func152,ntmps152;go_wp2_with fail;refine bZ (Bl (fun e=> !p e) _ l _ (HL.out.below ((an _ _).alloc (ag _) _)) 259 #[.pointer (some ⟨w.heap.size,0,none⟩)] (fun args w=>by rfl) ?_) ?_
  ·intro e he w' hw'
   obtain⟨hX,hw⟩:=boxed hw';exact Gh (p e) _ _ _ Nq #[] _ w' hE hX (fun w2 h2=>by simpa using HP.out e he w2 (hw.trans (h2.mono hw.size)))
  rintro x w2 ⟨rfl,hb⟩;clear hE;have HF:=V f;clear f;have f:decide ((l.length:Int) <=fD)=true:=HF.out;go_wp2;go_ret;refine⟨?_,((an _ _).alloc (ag _) _).trans (hb.mono (by simp))⟩;have e1:l.all p= !(l.any fun e=> !p e):=by rw [bP];simp
  rw [f,e1,cn];rfl
 ·have f:decide ((l.length:Int) <=fD)=false:=aw q
  go_enter func152,ntmps152;go_wp2;go_ret;exact⟨by first | rfl | (rw [f];rfl),(an _ _).alloc (ag _) _⟩
theorem J6 (p:jY ->Bool) (v:Value) (l:List jY) (w:World) (hl:eA 3 rL w v l) (Nq:Nat) (cs:Array Value)
  (hE:∀args w,(callFunc Nq args).run prog w= .ok (.enter Nq args) w)
  (hp:∀e∈l,∀w',Below w.heap.size w w' ->Calls prog Nq (#[.agg #[.bool e.isVar, .int .i64 e.init.kind, .int .i64 e.init.n]]++cs) w' (eL (p e) w')):
  Calls prog 306 #[v, .func (.func Nq) #[] cs] w (kp p l w):=by
 have HP:=V hp;have HI:=V hl;obtain⟨a,cap,rfl,h1,h2,_⟩:=id hl;unfold maxLen at h2;clear hl hp;go_enter func306,ntmps306;go_wp2_with fail;refine eR (fun a' w'=>∃(k:Nat),a'=fr (.slice a l.length cap:: .func (.func Nq) #[] cs::gs a' 2 5 (.int .i64 l.length:: .int .i64 k::gs a' 9 10 []))/\qP p l w w' k) (fun a' _=>(l.length - (intOf (a'.tmps.getD 8 undef)).toNat)) ?_ ?_
 ·exact⟨0,rfl,by omega,fun i hi=>by omega,an _ _⟩
 ·skip
  rintro R a' w1 ⟨k,Nm,hJ⟩ HR;dsimp only [fr,gs]at Nm;generalize slot a'=f at Nm;subst Nm;obtain⟨hk,hm,hb⟩:=hJ;have N1:=V hm;clear hm;by_cases N8:k < l.length;rotate_left
  ·obtain rfl:k=l.length:=by omega
   go_wp2;go_ret;exact⟨by rw [ia N1.out];rfl,hb⟩
  obtain⟨e,he⟩:∃e,l[k]?=some e:=⟨_,aq N8⟩;obtain⟨a',NK,hv,_,_,Nk⟩:=HI.out.below (hb.mono (ag _));injection hv with e1 e2 e3;subst e1 e3;obtain⟨b,off,rfl,Nu,hc⟩:=Nk k e he;have c0:=hc 0 _ rfl;have c1:=hc 1 _ rfl;have c2:=hc 2 _ rfl;rw [aJ]at c0;have Nv:=HP.out e (aN he) w1 hb;have HE:=V he;clear Nk e2 he hc;cases hq:p e
  all_goals
   rw [hq]at Nv;have HQ:=V hq;clear hq;go_wp2_with fail;refine Nv.mono ?_;rintro x w2 ⟨rfl,No⟩;replace hb:=ej hb No;clear Nv No c0 c1 c2;go_wp2_with fail
  ·refine HR.out _ _ ⟨k+1,rfl,by omega,?_,hb⟩ ?_
   ·intro i hi d hd
    rcases bz i k with h | h
    ·exact N1.out i h d hd
    ·obtain rfl:i=k:=by omega
     rw [HE.out]at hd;injection hd with hd;rw [<- hd];exact HQ.out
   ·simp [intOf]
    omega
  ·go_ret
   exact⟨by rw [iF HE.out HQ.out N1.out];rfl,hb⟩
theorem If (p:jY ->Bool) (v:Value) (l:List jY) (w:World) (hl:eA 3 rL w v l) (Nq:Nat) (cs:Array Value)
  (hE:∀args w,(callFunc Nq args).run prog w= .ok (.enter Nq args) w)
  (hp:∀e∈l,∀w',Below w.heap.size w w' ->Calls prog Nq (#[.agg #[.bool e.isVar, .int .i64 e.init.kind, .int .i64 e.init.n]]++cs) w' (eL (p e) w')):
  Calls prog 262 #[v, .func (.func Nq) #[] cs] w (eL (l.any p) w):=by
 go_enter func262,ntmps262;go_wp2_with fail;refine(J6 p v l _ hl Nq cs hE hp).mono ?_;rintro x w2 ⟨rfl,hb⟩;clear hE;go_wp2;go_ret;exact⟨by rw [<- iQ];rfl,hb⟩
theorem IY (b:Bool) (bb:Bool) (n1 n2:Int) (Nq:Nat) (cs:Array Value) (X:Nat) (w:World)
  (hE:∀args w,(callFunc Nq args).run prog w= .ok (.enter Nq args) w) (hX:w.cell? ⟨X,0,none⟩=some (.func (.func Nq) #[] cs))
  (hp:∀w',Below w.heap.size w w' ->Calls prog Nq (#[.agg #[.bool bb, .int .i64 n1, .int .i64 n2]]++cs) w' (eL b w')):
  Calls prog 263 #[.agg #[.bool bb, .int .i64 n1, .int .i64 n2], .pointer (some ⟨X,0,none⟩)] w (eL (!b) w):=by
 have Nu:=aO w _ hX;have HP:=V hp;clear hp;go_enter func263,ntmps263;go_wp2_with fail;refine(HP.out _ ((an _ _).alloc (ag _) _)).mono ?_;rintro x w2 ⟨rfl,hb⟩;clear hE hX;go_wp2;go_ret;exact⟨rfl,((an _ _).alloc (ag _) _).trans (hb.mono (by simp))⟩
theorem IT (p:jY ->Bool) (v:Value) (l:List jY) (w:World) (hl:eA 3 rL w v l) (Nq:Nat) (fD:Int)
  (hE:∀args w,(callFunc Nq args).run prog w= .ok (.enter Nq args) w)
  (hp:∀e∈l,∀w',Below w.heap.size w w' ->Calls prog Nq #[.agg #[.bool e.isVar, .int .i64 e.init.kind, .int .i64 e.init.n]] w' (eL (p e) w')):
  Calls prog 156 #[v, .int .i64 fD, .func (.func Nq) #[] #[]] w (eL (decide ((l.length:Int) <=fD)&&l.all p) w):=by
 have HP:=V hp;obtain⟨a,cap,rfl,h1,h2⟩:∃a cap,v= .slice a l.length cap/\l.length <=cap/\cap <=9223372036854775807:=fH hl;have HL:=V hl;clear hp hl;by_cases q:(l.length:Int) <=fD
 ·have f:decide ((l.length:Int) <=fD)=true:=ay q
  go_enter func156,ntmps156;go_wp2_with fail;refine bZ (If (fun e=> !p e) _ l _ (HL.out.below ((an _ _).alloc (ag _) _)) 263 #[.pointer (some ⟨w.heap.size,0,none⟩)] (fun args w=>by rfl) ?_) ?_
  ·intro e he w' hw'
   obtain⟨hX,hw⟩:=boxed hw';exact IY (p e) _ _ _ Nq #[] _ w' hE hX (fun w2 h2=>by simpa using HP.out e he w2 (hw.trans (h2.mono hw.size)))
  rintro x w2 ⟨rfl,hb⟩;clear hE;have HF:=V f;clear f;have f:decide ((l.length:Int) <=fD)=true:=HF.out;go_wp2;go_ret;refine⟨?_,((an _ _).alloc (ag _) _).trans (hb.mono (by simp))⟩;have e1:l.all p= !(l.any fun e=> !p e):=by rw [bP];simp
  rw [f,e1,cn];rfl
 ·have f:decide ((l.length:Int) <=fD)=false:=aw q
  go_enter func156,ntmps156;go_wp2;go_ret;exact⟨by first | rfl | (rw [f];rfl),(an _ _).alloc (ag _) _⟩
theorem J2 (p:jr ->Bool) (v:Value) (l:List jr) (w:World) (hl:eA 2 pS w v l) (Nq:Nat) (cs:Array Value)
  (hE:∀args w,(callFunc Nq args).run prog w= .ok (.enter Nq args) w)
  (hp:∀e∈l,∀w',Below w.heap.size w w' ->Calls prog Nq (#[.agg #[.string e.name, .int .i64 e.func]]++cs) w' (eL (p e) w')):
  Calls prog 101 #[v, .func (.func Nq) #[] cs] w (kp p l w):=by
 have HP:=V hp;have HI:=V hl;obtain⟨a,cap,rfl,h1,h2,_⟩:=id hl;unfold maxLen at h2;clear hl hp;go_enter func101,ntmps101;go_wp2_with fail;refine eR (fun a' w'=>∃(k:Nat),a'=fr (.slice a l.length cap:: .func (.func Nq) #[] cs::gs a' 2 5 (.int .i64 l.length:: .int .i64 k::gs a' 9 10 []))/\qP p l w w' k) (fun a' _=>(l.length - (intOf (a'.tmps.getD 8 undef)).toNat)) ?_ ?_
 ·exact⟨0,rfl,by omega,fun i hi=>by omega,an _ _⟩
 ·skip
  rintro R a' w1 ⟨k,Nm,hJ⟩ HR;dsimp only [fr,gs]at Nm;generalize slot a'=f at Nm;subst Nm;obtain⟨hk,hm,hb⟩:=hJ;have N1:=V hm;clear hm;by_cases N8:k < l.length;rotate_left
  ·obtain rfl:k=l.length:=by omega
   go_wp2;go_ret;exact⟨by rw [ia N1.out];rfl,hb⟩
  obtain⟨e,he⟩:∃e,l[k]?=some e:=⟨_,aq N8⟩;obtain⟨a',NK,hv,_,_,Nk⟩:=HI.out.below (hb.mono (ag _));injection hv with e1 e2 e3;subst e1 e3;obtain⟨b,off,rfl,Nu,hc⟩:=Nk k e he;have c0:=hc 0 _ rfl;have c1:=hc 1 _ rfl;rw [aJ]at c0;have Nv:=HP.out e (aN he) w1 hb;have HE:=V he;clear Nk e2 he hc;cases hq:p e
  all_goals
   rw [hq]at Nv;have HQ:=V hq;clear hq;go_wp2_with fail;refine Nv.mono ?_;rintro x w2 ⟨rfl,No⟩;replace hb:=ej hb No;clear Nv No c0 c1;go_wp2_with fail
  ·refine HR.out _ _ ⟨k+1,rfl,by omega,?_,hb⟩ ?_
   ·intro i hi d hd
    rcases bz i k with h | h
    ·exact N1.out i h d hd
    ·obtain rfl:i=k:=by omega
     rw [HE.out]at hd;injection hd with hd;rw [<- hd];exact HQ.out
   ·simp [intOf]
    omega
  ·go_ret
   exact⟨by rw [iF HE.out HQ.out N1.out];rfl,hb⟩
theorem Ba (p:jr ->Bool) (v:Value) (l:List jr) (w:World) (hl:eA 2 pS w v l) (Nq:Nat) (cs:Array Value)
  (hE:∀args w,(callFunc Nq args).run prog w= .ok (.enter Nq args) w)
  (hp:∀e∈l,∀w',Below w.heap.size w w' ->Calls prog Nq (#[.agg #[.string e.name, .int .i64 e.func]]++cs) w' (eL (p e) w')):
  Calls prog 70 #[v, .func (.func Nq) #[] cs] w (eL (l.any p) w):=by
 go_enter func70,ntmps70;go_wp2_with fail;refine(J2 p v l _ hl Nq cs hE hp).mono ?_;rintro x w2 ⟨rfl,hb⟩;clear hE;go_wp2;go_ret;exact⟨by rw [<- iQ];rfl,hb⟩
theorem F5 (b:Bool) (s1:ByteArray) (n:Int) (Nq:Nat) (cs:Array Value) (X:Nat) (w:World)
  (hE:∀args w,(callFunc Nq args).run prog w= .ok (.enter Nq args) w) (hX:w.cell? ⟨X,0,none⟩=some (.func (.func Nq) #[] cs))
  (hp:∀w',Below w.heap.size w w' ->Calls prog Nq (#[.agg #[.string s1, .int .i64 n]]++cs) w' (eL b w')):
  Calls prog 264 #[.agg #[.string s1, .int .i64 n], .pointer (some ⟨X,0,none⟩)] w (eL (!b) w):=by
 have Nu:=aO w _ hX;have HP:=V hp;clear hp;go_enter func264,ntmps264;go_wp2_with fail;refine(HP.out _ ((an _ _).alloc (ag _) _)).mono ?_;rintro x w2 ⟨rfl,hb⟩;clear hE hX;go_wp2;go_ret;exact⟨rfl,((an _ _).alloc (ag _) _).trans (hb.mono (by simp))⟩
theorem Gq (p:jr ->Bool) (v:Value) (l:List jr) (w:World) (hl:eA 2 pS w v l) (Nq:Nat) (fD:Int)
  (hE:∀args w,(callFunc Nq args).run prog w= .ok (.enter Nq args) w)
  (hp:∀e∈l,∀w',Below w.heap.size w w' ->Calls prog Nq #[.agg #[.string e.name, .int .i64 e.func]] w' (eL (p e) w')):
  Calls prog 158 #[v, .int .i64 fD, .func (.func Nq) #[] #[]] w (eL (decide ((l.length:Int) <=fD)&&l.all p) w):=by
 have HP:=V hp;obtain⟨a,cap,rfl,h1,h2⟩:∃a cap,v= .slice a l.length cap/\l.length <=cap/\cap <=9223372036854775807:=fH hl;have HL:=V hl;clear hp hl;by_cases q:(l.length:Int) <=fD
 ·have f:decide ((l.length:Int) <=fD)=true:=ay q
  go_enter func158,ntmps158;go_wp2_with fail;refine bZ (Ba (fun e=> !p e) _ l _ (HL.out.below ((an _ _).alloc (ag _) _)) 264 #[.pointer (some ⟨w.heap.size,0,none⟩)] (fun args w=>by rfl) ?_) ?_
  ·intro e he w' hw'
   obtain⟨hX,hw⟩:=boxed hw';exact F5 (p e) _ _ Nq #[] _ w' hE hX (fun w2 h2=>by simpa using HP.out e he w2 (hw.trans (h2.mono hw.size)))
  rintro x w2 ⟨rfl,hb⟩;clear hE;have HF:=V f;clear f;have f:decide ((l.length:Int) <=fD)=true:=HF.out;go_wp2;go_ret;refine⟨?_,((an _ _).alloc (ag _) _).trans (hb.mono (by simp))⟩;have e1:l.all p= !(l.any fun e=> !p e):=by rw [bP];simp
  rw [f,e1,cn];rfl
 ·have f:decide ((l.length:Int) <=fD)=false:=aw q
  go_enter func158,ntmps158;go_wp2;go_ret;exact⟨by first | rfl | (rw [f];rfl),(an _ _).alloc (ag _) _⟩
theorem JI (p:jI ->Bool) (v:Value) (l:List jI) (w:World) (hl:eD 2 sq il w v l) (Nq:Nat) (cs:Array Value)
  (hE:∀args w,(callFunc Nq args).run prog w= .ok (.enter Nq args) w)
  (hp:∀e∈l,∀u w',Below w.heap.size w w' ->il w' e u ->Calls prog Nq (#[.agg #[.int .i64 e.off,u]]++cs) w' (eL (p e) w')):
  Calls prog 113 #[v, .func (.func Nq) #[] cs] w (kp p l w):=by
 have HP:=V hp;have HI:=V hl;obtain⟨a,cap,rfl,h1,h2⟩:=eD.slice hl;clear hl hp;go_enter func113,ntmps113;go_wp2_with fail;refine eR (fun a' w'=>∃(k:Nat),a'=fr (.slice a l.length cap:: .func (.func Nq) #[] cs::gs a' 2 5 (.int .i64 l.length:: .int .i64 k::gs a' 9 10 []))/\qP p l w w' k) (fun a' _=>(l.length - (intOf (a'.tmps.getD 8 undef)).toNat)) ?_ ?_
 ·exact⟨0,rfl,by omega,fun i hi=>by omega,an _ _⟩
 ·skip
  rintro R a' w1 ⟨k,Nm,hJ⟩ HR;dsimp only [fr,gs]at Nm;generalize slot a'=f at Nm;subst Nm;obtain⟨hk,hm,hb⟩:=hJ;have N1:=V hm;clear hm;by_cases N8:k < l.length;rotate_left
  ·obtain rfl:k=l.length:=by omega
   go_wp2;go_ret;exact⟨by rw [ia N1.out];rfl,hb⟩
  obtain⟨e,he⟩:∃e,l[k]?=some e:=⟨_,aq N8⟩;obtain⟨b,off,u,rfl,Nu,hc,hu⟩:=(eD.below HI.out (hb.mono (ag _)) (fun _ _ h=>h.below (hb.mono (ag _)))).get he;have Nv:=HP.out e (aN he) u w1 hb hu;obtain⟨⟨a1,NI,rfl,-,-,-⟩,-⟩:=id hu;have c0:=hc 0 _ rfl;have c1:=hc 1 _ rfl;rw [aJ]at c0;have HE:=V he;clear he hc hu;cases hq:p e
  all_goals
   rw [hq]at Nv;have HQ:=V hq;clear hq;go_wp2_with fail;refine Nv.mono ?_;rintro x w2 ⟨rfl,No⟩;replace hb:=ej hb No;clear Nv No c0 c1;go_wp2_with fail
  ·refine HR.out _ _ ⟨k+1,rfl,by omega,?_,hb⟩ ?_
   ·intro i hi d hd
    rcases bz i k with h | h
    ·exact N1.out i h d hd
    ·obtain rfl:i=k:=by omega
     rw [HE.out]at hd;injection hd with hd;rw [<- hd];exact HQ.out
   ·simp [intOf]
    omega
  ·go_ret
   exact⟨by rw [iF HE.out HQ.out N1.out];rfl,hb⟩
theorem vt (p:jI ->Bool) (v:Value) (l:List jI) (w:World) (hl:eD 2 sq il w v l) (Nq:Nat) (cs:Array Value)
  (hE:∀args w,(callFunc Nq args).run prog w= .ok (.enter Nq args) w)
  (hp:∀e∈l,∀u w',Below w.heap.size w w' ->il w' e u ->Calls prog Nq (#[.agg #[.int .i64 e.off,u]]++cs) w' (eL (p e) w')):
  Calls prog 77 #[v, .func (.func Nq) #[] cs] w (eL (l.any p) w):=by
 go_enter func77,ntmps77;go_wp2_with fail;refine(JI p v l _ hl Nq cs hE hp).mono ?_;rintro x w2 ⟨rfl,hb⟩;clear hE;go_wp2;go_ret;exact⟨by rw [<- iQ];rfl,hb⟩
theorem GN (b:Bool) (z:Int) (a1:Option Addr) (n1 c1:Nat) (Nq:Nat) (cs:Array Value) (X:Nat) (w:World)
  (hE:∀args w,(callFunc Nq args).run prog w= .ok (.enter Nq args) w) (hX:w.cell? ⟨X,0,none⟩=some (.func (.func Nq) #[] cs))
  (hp:∀w',Below w.heap.size w w' ->Calls prog Nq (#[.agg #[.int .i64 z, .slice a1 n1 c1]]++cs) w' (eL b w')):
  Calls prog 265 #[.agg #[.int .i64 z, .slice a1 n1 c1], .pointer (some ⟨X,0,none⟩)] w (eL (!b) w):=by
 have Nu:=aO w _ hX;have HP:=V hp;clear hp;go_enter func265,ntmps265;go_wp2_with fail;refine(HP.out _ ((an _ _).alloc (ag _) _)).mono ?_;rintro x w2 ⟨rfl,hb⟩;clear hE hX;go_wp2;go_ret;exact⟨rfl,((an _ _).alloc (ag _) _).trans (hb.mono (by simp))⟩
theorem Hi (p:jI ->Bool) (v:Value) (l:List jI) (w:World) (hl:eD 2 sq il w v l) (Nq:Nat) (fD:Int)
  (hE:∀args w,(callFunc Nq args).run prog w= .ok (.enter Nq args) w)
  (hp:∀e∈l,∀u w',Below w.heap.size w w' ->il w' e u ->Calls prog Nq #[.agg #[.int .i64 e.off,u]] w' (eL (p e) w')):
  Calls prog 160 #[v, .int .i64 fD, .func (.func Nq) #[] #[]] w (eL (decide ((l.length:Int) <=fD)&&l.all p) w):=by
 have HP:=V hp;obtain⟨a,cap,rfl,h1,h2⟩:∃a cap,v= .slice a l.length cap/\l.length <=cap/\cap <=9223372036854775807:=eD.slice hl;have HL:=V hl;clear hp hl;by_cases q:(l.length:Int) <=fD
 ·have f:decide ((l.length:Int) <=fD)=true:=ay q
  go_enter func160,ntmps160;go_wp2_with fail;refine bZ (vt (fun e=> !p e) _ l _ (eD.below HL.out ((an _ _).alloc (ag _) _) (fun _ _ h=>h.below ((an _ _).alloc (ag _) _))) 265 #[.pointer (some ⟨w.heap.size,0,none⟩)] (fun args w=>by rfl) ?_) ?_
  ·intro e he u w' hw' hu
   obtain⟨hX,hw⟩:=boxed hw';obtain⟨⟨a1,NI,rfl,-,-,-⟩,-⟩:=id hu;exact GN (p e) _ _ _ _ Nq #[] _ w' hE hX (fun w2 h2=>by simpa using HP.out e he _ w2 (hw.trans (h2.mono hw.size)) (hu.below h2))
  rintro x w2 ⟨rfl,hb⟩;clear hE;have HF:=V f;clear f;have f:decide ((l.length:Int) <=fD)=true:=HF.out;go_wp2;go_ret;refine⟨?_,((an _ _).alloc (ag _) _).trans (hb.mono (by simp))⟩;have e1:l.all p= !(l.any fun e=> !p e):=by rw [bP];simp
  rw [f,e1,cn];rfl
 ·have f:decide ((l.length:Int) <=fD)=false:=aw q
  go_enter func160,ntmps160;go_wp2;go_ret;exact⟨by first | rfl | (rw [f];rfl),(an _ _).alloc (ag _) _⟩
theorem J7 (p:iq ->Bool) (v:Value) (l:List iq) (w:World) (hl:eD 2 ou gG w v l) (Nq:Nat) (cs:Array Value)
  (hE:∀args w,(callFunc Nq args).run prog w= .ok (.enter Nq args) w)
  (hp:∀e∈l,∀u w',Below w.heap.size w w' ->gG w' e u ->Calls prog Nq (#[.agg #[.int .i64 e.off,u]]++cs) w' (eL (p e) w')):
  Calls prog 307 #[v, .func (.func Nq) #[] cs] w (kp p l w):=by
 have HP:=V hp;have HI:=V hl;obtain⟨a,cap,rfl,h1,h2⟩:=eD.slice hl;clear hl hp;go_enter func307,ntmps307;go_wp2_with fail;refine eR (fun a' w'=>∃(k:Nat),a'=fr (.slice a l.length cap:: .func (.func Nq) #[] cs::gs a' 2 5 (.int .i64 l.length:: .int .i64 k::gs a' 9 10 []))/\qP p l w w' k) (fun a' _=>(l.length - (intOf (a'.tmps.getD 8 undef)).toNat)) ?_ ?_
 ·exact⟨0,rfl,by omega,fun i hi=>by omega,an _ _⟩
 ·skip
  rintro R a' w1 ⟨k,Nm,hJ⟩ HR;dsimp only [fr,gs]at Nm;generalize slot a'=f at Nm;subst Nm;obtain⟨hk,hm,hb⟩:=hJ;have N1:=V hm;clear hm;by_cases N8:k < l.length;rotate_left
  ·obtain rfl:k=l.length:=by omega
   go_wp2;go_ret;exact⟨by rw [ia N1.out];rfl,hb⟩
  obtain⟨e,he⟩:∃e,l[k]?=some e:=⟨_,aq N8⟩;obtain⟨b,off,u,rfl,Nu,hc,hu⟩:=(eD.below HI.out (hb.mono (ag _)) (fun _ _ h=>h.below (hb.mono (ag _)))).get he;have Nv:=HP.out e (aN he) u w1 hb hu;obtain⟨⟨a1,NI,rfl,-,-,-⟩,-⟩:=id hu;have c0:=hc 0 _ rfl;have c1:=hc 1 _ rfl;rw [aJ]at c0;have HE:=V he;clear he hc hu;cases hq:p e
  all_goals
   rw [hq]at Nv;have HQ:=V hq;clear hq;go_wp2_with fail;refine Nv.mono ?_;rintro x w2 ⟨rfl,No⟩;replace hb:=ej hb No;clear Nv No c0 c1;go_wp2_with fail
  ·refine HR.out _ _ ⟨k+1,rfl,by omega,?_,hb⟩ ?_
   ·intro i hi d hd
    rcases bz i k with h | h
    ·exact N1.out i h d hd
    ·obtain rfl:i=k:=by omega
     rw [HE.out]at hd;injection hd with hd;rw [<- hd];exact HQ.out
   ·simp [intOf]
    omega
  ·go_ret
   exact⟨by rw [iF HE.out HQ.out N1.out];rfl,hb⟩
theorem IU (p:iq ->Bool) (v:Value) (l:List iq) (w:World) (hl:eD 2 ou gG w v l) (Nq:Nat) (cs:Array Value)
  (hE:∀args w,(callFunc Nq args).run prog w= .ok (.enter Nq args) w)
  (hp:∀e∈l,∀u w',Below w.heap.size w w' ->gG w' e u ->Calls prog Nq (#[.agg #[.int .i64 e.off,u]]++cs) w' (eL (p e) w')):
  Calls prog 266 #[v, .func (.func Nq) #[] cs] w (eL (l.any p) w):=by
 go_enter func266,ntmps266;go_wp2_with fail;refine(J7 p v l _ hl Nq cs hE hp).mono ?_;rintro x w2 ⟨rfl,hb⟩;clear hE;go_wp2;go_ret;exact⟨by rw [<- iQ];rfl,hb⟩
theorem Ge (b:Bool) (z:Int) (a1:Option Addr) (n1 c1:Nat) (Nq:Nat) (cs:Array Value) (X:Nat) (w:World)
  (hE:∀args w,(callFunc Nq args).run prog w= .ok (.enter Nq args) w) (hX:w.cell? ⟨X,0,none⟩=some (.func (.func Nq) #[] cs))
  (hp:∀w',Below w.heap.size w w' ->Calls prog Nq (#[.agg #[.int .i64 z, .slice a1 n1 c1]]++cs) w' (eL b w')):
  Calls prog 267 #[.agg #[.int .i64 z, .slice a1 n1 c1], .pointer (some ⟨X,0,none⟩)] w (eL (!b) w):=by
 have Nu:=aO w _ hX;have HP:=V hp;clear hp;go_enter func267,ntmps267;go_wp2_with fail;refine(HP.out _ ((an _ _).alloc (ag _) _)).mono ?_;rintro x w2 ⟨rfl,hb⟩;clear hE hX;go_wp2;go_ret;exact⟨rfl,((an _ _).alloc (ag _) _).trans (hb.mono (by simp))⟩
theorem GQ (p:iq ->Bool) (v:Value) (l:List iq) (w:World) (hl:eD 2 ou gG w v l) (Nq:Nat) (fD:Int)
  (hE:∀args w,(callFunc Nq args).run prog w= .ok (.enter Nq args) w)
  (hp:∀e∈l,∀u w',Below w.heap.size w w' ->gG w' e u ->Calls prog Nq #[.agg #[.int .i64 e.off,u]] w' (eL (p e) w')):
  Calls prog 163 #[v, .int .i64 fD, .func (.func Nq) #[] #[]] w (eL (decide ((l.length:Int) <=fD)&&l.all p) w):=by
 have HP:=V hp;obtain⟨a,cap,rfl,h1,h2⟩:∃a cap,v= .slice a l.length cap/\l.length <=cap/\cap <=9223372036854775807:=eD.slice hl;have HL:=V hl;clear hp hl;by_cases q:(l.length:Int) <=fD
 ·have f:decide ((l.length:Int) <=fD)=true:=ay q
  go_enter func163,ntmps163;go_wp2_with fail;refine bZ (IU (fun e=> !p e) _ l _ (eD.below HL.out ((an _ _).alloc (ag _) _) (fun _ _ h=>h.below ((an _ _).alloc (ag _) _))) 267 #[.pointer (some ⟨w.heap.size,0,none⟩)] (fun args w=>by rfl) ?_) ?_
  ·intro e he u w' hw' hu
   obtain⟨hX,hw⟩:=boxed hw';obtain⟨⟨a1,NI,rfl,-,-,-⟩,-⟩:=id hu;exact Ge (p e) _ _ _ _ Nq #[] _ w' hE hX (fun w2 h2=>by simpa using HP.out e he _ w2 (hw.trans (h2.mono hw.size)) (hu.below h2))
  rintro x w2 ⟨rfl,hb⟩;clear hE;have HF:=V f;clear f;have f:decide ((l.length:Int) <=fD)=true:=HF.out;go_wp2;go_ret;refine⟨?_,((an _ _).alloc (ag _) _).trans (hb.mono (by simp))⟩;have e1:l.all p= !(l.any fun e=> !p e):=by rw [bP];simp
  rw [f,e1,cn];rfl
 ·have f:decide ((l.length:Int) <=fD)=false:=aw q
  go_enter func163,ntmps163;go_wp2;go_ret;exact⟨by first | rfl | (rw [f];rfl),(an _ _).alloc (ag _) _⟩
theorem JV (p:fa ->Bool) (v:Value) (l:List fa) (w:World) (hl:eD 4 qO gY w v l) (Nq:Nat) (cs:Array Value)
  (hE:∀args w,(callFunc Nq args).run prog w= .ok (.enter Nq args) w)
  (hp:∀e∈l,∀u w',Below w.heap.size w w' ->gY w' e u ->Calls prog Nq (#[.agg #[.int .i64 e.op, .int .i64 e.a, .int .i64 e.b,u]]++cs) w' (eL (p e) w')):
  Calls prog 256 #[v, .func (.func Nq) #[] cs] w (kp p l w):=by
 have HP:=V hp;have HI:=V hl;obtain⟨a,cap,rfl,h1,h2⟩:=eD.slice hl;clear hl hp;go_enter func256,ntmps256;go_wp2_with fail;refine eR (fun a' w'=>∃(k:Nat),a'=fr (.slice a l.length cap:: .func (.func Nq) #[] cs::gs a' 2 5 (.int .i64 l.length:: .int .i64 k::gs a' 9 10 []))/\qP p l w w' k) (fun a' _=>(l.length - (intOf (a'.tmps.getD 8 undef)).toNat)) ?_ ?_
 ·exact⟨0,rfl,by omega,fun i hi=>by omega,an _ _⟩
 ·skip
  rintro R a' w1 ⟨k,Nm,hJ⟩ HR;dsimp only [fr,gs]at Nm;generalize slot a'=f at Nm;subst Nm;obtain⟨hk,hm,hb⟩:=hJ;have N1:=V hm;clear hm;by_cases N8:k < l.length;rotate_left
  ·obtain rfl:k=l.length:=by omega
   go_wp2;go_ret;exact⟨by rw [ia N1.out];rfl,hb⟩
  obtain⟨e,he⟩:∃e,l[k]?=some e:=⟨_,aq N8⟩;obtain⟨b,off,u,rfl,Nu,hc,hu⟩:=(eD.below HI.out (hb.mono (ag _)) (fun _ _ h=>h.below (hb.mono (ag _)))).get he;have Nv:=HP.out e (aN he) u w1 hb hu;obtain⟨⟨a1,NI,rfl,-,-,-⟩,-⟩:=id hu;have c0:=hc 0 _ rfl;have c1:=hc 1 _ rfl;have c2:=hc 2 _ rfl;have c3:=hc 3 _ rfl;rw [aJ]at c0;have HE:=V he;clear he hc hu;cases hq:p e
  all_goals
   rw [hq]at Nv;have HQ:=V hq;clear hq;go_wp2_with fail;refine Nv.mono ?_;rintro x w2 ⟨rfl,No⟩;replace hb:=ej hb No;clear Nv No c0 c1 c2 c3;go_wp2_with fail
  ·refine HR.out _ _ ⟨k+1,rfl,by omega,?_,hb⟩ ?_
   ·intro i hi d hd
    rcases bz i k with h | h
    ·exact N1.out i h d hd
    ·obtain rfl:i=k:=by omega
     rw [HE.out]at hd;injection hd with hd;rw [<- hd];exact HQ.out
   ·simp [intOf]
    omega
  ·go_ret
   exact⟨by rw [iF HE.out HQ.out N1.out];rfl,hb⟩
theorem IQ (p:fa ->Bool) (v:Value) (l:List fa) (w:World) (hl:eD 4 qO gY w v l) (Nq:Nat) (cs:Array Value)
  (hE:∀args w,(callFunc Nq args).run prog w= .ok (.enter Nq args) w)
  (hp:∀e∈l,∀u w',Below w.heap.size w w' ->gY w' e u ->Calls prog Nq (#[.agg #[.int .i64 e.op, .int .i64 e.a, .int .i64 e.b,u]]++cs) w' (eL (p e) w')):
  Calls prog 144 #[v, .func (.func Nq) #[] cs] w (eL (l.any p) w):=by
 go_enter func144,ntmps144;go_wp2_with fail;refine(JV p v l _ hl Nq cs hE hp).mono ?_;rintro x w2 ⟨rfl,hb⟩;clear hE;go_wp2;go_ret;exact⟨by rw [<- iQ];rfl,hb⟩
theorem GV (b:Bool) (z1 z2 z3:Int) (a1:Option Addr) (n1 c1:Nat) (Nq:Nat) (cs:Array Value) (X:Nat) (w:World)
  (hE:∀args w,(callFunc Nq args).run prog w= .ok (.enter Nq args) w) (hX:w.cell? ⟨X,0,none⟩=some (.func (.func Nq) #[] cs))
  (hp:∀w',Below w.heap.size w w' ->Calls prog Nq (#[.agg #[.int .i64 z1, .int .i64 z2, .int .i64 z3, .slice a1 n1 c1]]++cs) w' (eL b w')):
  Calls prog 145 #[.agg #[.int .i64 z1, .int .i64 z2, .int .i64 z3, .slice a1 n1 c1], .pointer (some ⟨X,0,none⟩)] w (eL (!b) w):=by
 have Nu:=aO w _ hX;have HP:=V hp;clear hp;go_enter func145,ntmps145;go_wp2_with fail;refine(HP.out _ ((an _ _).alloc (ag _) _)).mono ?_;rintro x w2 ⟨rfl,hb⟩;clear hE hX;go_wp2;go_ret;exact⟨rfl,((an _ _).alloc (ag _) _).trans (hb.mono (by simp))⟩
theorem Gz (p:fa ->Bool) (v:Value) (l:List fa) (w:World) (hl:eD 4 qO gY w v l) (Nq:Nat) (fD:Int)
  (hE:∀args w,(callFunc Nq args).run prog w= .ok (.enter Nq args) w)
  (hp:∀e∈l,∀u w',Below w.heap.size w w' ->gY w' e u ->Calls prog Nq #[.agg #[.int .i64 e.op, .int .i64 e.a, .int .i64 e.b,u]] w' (eL (p e) w')):
  Calls prog 106 #[v, .int .i64 fD, .func (.func Nq) #[] #[]] w (eL (decide ((l.length:Int) <=fD)&&l.all p) w):=by
 have HP:=V hp;obtain⟨a,cap,rfl,h1,h2⟩:∃a cap,v= .slice a l.length cap/\l.length <=cap/\cap <=9223372036854775807:=eD.slice hl;have HL:=V hl;clear hp hl;by_cases q:(l.length:Int) <=fD
 ·have f:decide ((l.length:Int) <=fD)=true:=ay q
  go_enter func106,ntmps106;go_wp2_with fail;refine bZ (IQ (fun e=> !p e) _ l _ (eD.below HL.out ((an _ _).alloc (ag _) _) (fun _ _ h=>h.below ((an _ _).alloc (ag _) _))) 145 #[.pointer (some ⟨w.heap.size,0,none⟩)] (fun args w=>by rfl) ?_) ?_
  ·intro e he u w' hw' hu
   obtain⟨hX,hw⟩:=boxed hw';obtain⟨⟨a1,NI,rfl,-,-,-⟩,-⟩:=id hu;exact GV (p e) _ _ _ _ _ _ Nq #[] _ w' hE hX (fun w2 h2=>by simpa using HP.out e he _ w2 (hw.trans (h2.mono hw.size)) (hu.below h2))
  rintro x w2 ⟨rfl,hb⟩;clear hE;have HF:=V f;clear f;have f:decide ((l.length:Int) <=fD)=true:=HF.out;go_wp2;go_ret;refine⟨?_,((an _ _).alloc (ag _) _).trans (hb.mono (by simp))⟩;have e1:l.all p= !(l.any fun e=> !p e):=by rw [bP];simp
  rw [f,e1,cn];rfl
 ·have f:decide ((l.length:Int) <=fD)=false:=aw q
  go_enter func106,ntmps106;go_wp2;go_ret;exact⟨by first | rfl | (rw [f];rfl),(an _ _).alloc (ag _) _⟩
def Wr (w:World) (b:Value) (B:Nat) (w':World) (v:Value) (L:List UInt8):Prop:=eC w' B v L/\ep (eO b) w w'/\eQ w b v
theorem Wr.refl {w:World} {b:Value} {B:Nat} {L:List UInt8} (h:eC w B b L):Wr w b B w b L:=⟨h,ep.refl _ _,eQ.refl _ _⟩
theorem Wr.step {w w1 w2:World} {b v1 v2:Value} {B:Nat} {L1 L2:List UInt8} (h:Wr w b B w1 v1 L1) (k:Wr w1 v1 B w2 v2 L2):Wr w b B w2 v2 L2:=
 ⟨k.1,h.2.1.trans k.2.1 (fun i hi=>h.2.2 i hi),h.2.2.trans k.2.2 h.2.1.size⟩
theorem Wr.alloc {w w1:World} {b v:Value} {B:Nat} {L:List UInt8} (h:Wr w b B w1 v L) (o:Obj):Wr w b B (w1.alloc o) v L:=⟨World.ownsRow.alloc h.1 _,h.2.1.alloc _,h.2.2⟩
theorem Wr.drew {w w1:World} {b v:Value} {B:Nat} {L:List UInt8} (h:Wr w b B w1 v L):Wr w b B w1.drew v L:=⟨h.1,h.2.1.drew,h.2.2⟩
theorem Wr.size {w w1:World} {b v:Value} {B:Nat} {L:List UInt8} (h:Wr w b B w1 v L):w.heap.size <=w1.heap.size:=h.2.1.size
theorem Wr.base {w w1:World} {b v:Value} {B:Nat} {L:List UInt8} (h:Wr w b B w1 v L) (hB:B <=w.heap.size):B <=w1.heap.size:=aQ hB h.size
theorem Wr.below {w w1 w2:World} {b v:Value} {B:Nat} {L:List UInt8} (h:Wr w b B w1 v L) (hb:Below w1.heap.size w1 w2):Wr w b B w2 v L:=
 ⟨eC.below h.1 hb,h.2.1.trans (ep.et (S:=fun _=>False) hb) (fun _ hi=>hi.elim),h.2.2⟩
def Aside (w:World) (b:Value) (X:Nat) (cs:Array Value) (t:TypeId):Prop:=eS w X cs t/\¬ eO b X
theorem Aside.next {w w1:World} {b v:Value} {B:Nat} {L:List UInt8} {X:Nat} {cs:Array Value} {t:TypeId} (h:Aside w b X cs t) (k:Wr w b B w1 v L):Aside w1 v X cs t:=
 ⟨h.1.keeps k.2.1 h.2,fun g=>(k.2.2 X g).elim h.2 (fun g=>by have:=h.1.lt;omega)⟩
theorem Aside.new {w:World} {b:Value} {B:Nat} {L:List UInt8} (h:eC w B b L) (cs:Array Value) (t:TypeId):Aside (w.alloc (.cells cs t)) b w.heap.size cs t:=
 ⟨eS.new w cs t,fun g=>by have:=(eM h g).2;omega⟩
theorem Aside.alloc {w:World} {b:Value} {X:Nat} {cs:Array Value} {t:TypeId} (h:Aside w b X cs t) (o:Obj):Aside (w.alloc o) b X cs t:=⟨h.1.alloc o,h.2⟩
theorem Aside.drew {w:World} {b:Value} {X:Nat} {cs:Array Value} {t:TypeId} (h:Aside w b X cs t):Aside w.drew b X cs t:=⟨h.1.drew,h.2⟩
theorem Aside.cell {w:World} {b:Value} {X:Nat} {cs:Array Value} {t:TypeId} (h:Aside w b X cs t) (i:Nat):w.cell? ⟨X,i,none⟩=cs[i]?:=h.1.cell i
def Src (w0 w:World) (B:Nat):Prop:=Below w0.heap.size w0 w/\w0.heap.size <=B
theorem Src.next {w0 w w1:World} {b v:Value} {B:Nat} {L0 L:List UInt8} (h:Src w0 w B) (Nl:eC w B b L0) (k:Wr w b B w1 v L):Src w0 w1 B:=
 ⟨h.1.trans (k.2.1.below h.1.size (fun _ hi=>aQ h.2 (eM Nl hi).1)),h.2⟩
theorem Src.alloc {w0 w:World} {B:Nat} (h:Src w0 w B) (o:Obj):Src w0 (w.alloc o) B:=⟨h.1.alloc h.1.size o,h.2⟩
theorem Src.drew {w0 w:World} {B:Nat} (h:Src w0 w B):Src w0 w.drew B:=⟨h.1.drew,h.2⟩
theorem Src.below {w0 w w1:World} {B:Nat} (h:Src w0 w B) (hb:Below w.heap.size w w1):Src w0 w1 B:=⟨h.1.trans (hb.mono h.1.size),h.2⟩
theorem Aside.below {w w1:World} {b:Value} {X:Nat} {cs:Array Value} {t:TypeId} (h:Aside w b X cs t) (hb:Below w.heap.size w w1):Aside w1 b X cs t:=⟨h.1.below hb h.1.lt,h.2⟩
end Go.Proofs.YtjmeglibedbljaaGreatDoor
