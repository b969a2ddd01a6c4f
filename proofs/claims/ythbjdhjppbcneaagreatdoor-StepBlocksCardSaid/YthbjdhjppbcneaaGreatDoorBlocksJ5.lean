import Derived.Test.YthbjdhjppbcneaaGreatDoorBlocksJ4
import Derived.Deep.Cut
namespace Go.Proofs.YthbjdhjppbcneaaGreatDoor
set_option maxRecDepth 100000
set_option maxHeartbeats 20000000
open Go.RowKit Tryz
open Lib renaming hid->V
set_option linter.all false
theorem jM (b:iR):(sQ b).length=3:=rfl
theorem fH (x:Int):(fp x).length=1:=rfl
theorem DN (b:iR):∀u∈sQ b,u.oneCell'=true:=by
 intro u hu;simp only [sQ,bB,bN,cY]at hu;rcases hu with rfl | rfl | rfl <;>rfl
theorem jT:(prog.info? 3).map (fun i=>(i.zero,i.size,i.bytes))=some (some (.int .i64 0),1,8):=by kernel_rfl
theorem Bg:(prog.info? 107).map (fun i=>(i.zero,i.size,i.bytes))=some (some (.agg #[.int .i64 0, .int .i64 0, .int .i64 0]),3,24):=by kernel_rfl
theorem pT (n:Int) (w:World):Calls prog 73 #[.int .i64 n] w (eF (kJ n) w):=by
 by_cases q0:n=2
 ·have f0:=eQ q0
  have HB:=V (show kJ n=true by rw [q0];rfl);clear q0;go_enter func73,ntmps73;go_wp2_with fail;go_ret;exact⟨by rw [HB.out];rfl,an _ _⟩
 have f0:=ed q0;by_cases q1:n=3
 ·have f1:=eQ q1
  have HB:=V (show kJ n=true by rw [q1];rfl);clear q0 q1;go_enter func73,ntmps73;go_wp2_with fail;go_ret;exact⟨by rw [HB.out];rfl,an _ _⟩
 have f1:=ed q1;by_cases q2:n=4
 ·have f2:=eQ q2
  have HB:=V (show kJ n=true by rw [q2];rfl);clear q0 q1 q2;go_enter func73,ntmps73;go_wp2_with fail;go_ret;exact⟨by rw [HB.out];rfl,an _ _⟩
 have f2:=ed q2;have HB:=V (show kJ n=false by unfold kJ;rw [f0,f1,f2];rfl);clear q0 q1 q2;go_enter func73,ntmps73;go_wp2_with fail;go_ret;exact⟨by rw [HB.out];rfl,an _ _⟩
theorem ea.dropLast {α:Type} {t:TypeId} {k:Nat} {enc:α ->List Value} {w:World} {B:Nat} {a:Option Addr} {m cap:Nat} {l:List α} (h:ea t k enc w B (.slice a (m+1) cap) l) (hm:l.length=m+1) (hk:∀x,(enc x).length=k):
  ea t k enc w B (.slice a m cap) l.dropLast:=by
 obtain⟨hl,hv | ⟨g,LO,cur,hv,hb,hg,hn,hc,hs,ht⟩⟩:=h
 ·injection hv.1 with _ e;omega
 ·have Pa:l.dropLast.length=m:=by rw [cR,hm];rfl
  injection hv with e1 e2 e3;subst e1 e3;refine⟨by rw [kf hk], .inr ⟨g,cap,cur,by rw [Pa],hb,hg,by rw [Pa];omega,hc,hs,?_⟩⟩;have e4:(l.dropLast.flatMap enc)=(l.flatMap enc).take (m*k):=by
   have Nm:l≠[]:=by intro e;rw [e]at hm;simp at hm
   conv=>rhs;rw [<- cS Nm,List.flatMap_append]
   rw [List.take_append_of_le_length (by rw [kf hk,Pa];exact ag _)];rw [cW (by rw [kf hk,Pa];exact ag _)]
  rw [e4, <- ht,Pa,List.take_take]
  congr 1
  rw [hm];have:m*k <=(m+1)*k:=cz _ (by omega);omega
theorem vX (a:Option Addr) (m cap:Nat) (h:m+1 <=cap) (wx:World):
  (Instr.slice 25 (.slice a (m+1) cap) none (some (.int .i64 m)) none).run prog wx= .ok (.slice a m cap) wx:=by
 have hu:prog.underlying 25=some (.slice 3):=by kernel_rfl
 obtain⟨i0,hi,NW,MP,Nu⟩:=bX jT;simp [Instr.slice,bx hu,Instr.sliceBounds,Instr.sliceBound,sizeOf,typeInfo,hi,asIntOf,show m <=cap by omega];cases a <;>simp [Addr.add]
def FR (l:List eS) (w:World) (e:Ending) (w':World):Prop:=
 Below w.heap.size w w'/\((∃bs v,fI l=some bs/\e= .returned (.tuple #[v, .bool true])/\ea 107 3 sQ w' w.heap.size v bs)\/(fI l=none/\e= .returned (.tuple #[.slice none 0 0, .bool false])))
def Lg (l:List eS) (w w':World) (va vo:Value) (k:Nat) (all:List iR) (O4:List Nat):Prop:=
 k <=l.length/\gH l l 0 ([],[])=gH l (l.drop k) k (all,O4)/\ea 107 3 sQ w' w.heap.size va all/\ea 3 1 fp w' w.heap.size vo (O4.map fun x:Nat=>(x:Int))/\Below w.heap.size w w'/\
 O4.length <=40/\(∀j∈O4,j < all.length)/\(∀b∈all,0 <=b.pos/\b.pos < l.length)/\all.length <=k
theorem xY {l:List eS} {k:Nat} {x:eS} {st:List iR × List Nat} (hx:l[k]?=some x) (h:gH l l 0 ([],[])=gH l (l.drop k) k st) (hs:fO l k x st=none) (hl:l.length <=300):fI l=none:=by
 obtain⟨hk,rfl⟩:=aM.1 hx;rw [cA hk,gH,hs]at h;unfold fI;rw [aC (by omega),h];rfl
theorem ye {l:List eS} {k:Nat} {x:eS} {st Ob:List iR × List Nat} (hx:l[k]?=some x) (h:gH l l 0 ([],[])=gH l (l.drop k) k st) (hs:fO l k x st=some Ob):gH l l 0 ([],[])=gH l (l.drop (k+1)) (k+1) Ob:=by
 obtain⟨hk,rfl⟩:=aM.1 hx;rw [cA hk,gH,hs]at h;exact h
theorem pW (v:Value) (l:List eS) (w:World) (hl:gx w v l):Calls prog 34 #[v] w (FR l w):=by
 obtain⟨a,cap,rfl,h1,h2⟩:=et.slice hl;have HL:=V hl;clear hl;by_cases q300:l.length <=300;rotate_left
 ·have f0:decide ((300:Int) < (l.length:Int))=true:=aA (by omega)
  have HM:=V (show fI l=none by unfold fI;rw [if_pos (by omega)]);go_enter func34,ntmps34;go_wp2_with fail
  go_ret2
  exact⟨an _ _, .inr ⟨HM.out,rfl⟩⟩
 have f0:decide ((300:Int) < (l.length:Int))=false:=aq (by omega);go_enter func34,ntmps34;go_wp2_with fail;clear f0;refine eJ (fun a' w'=>∃(va vo:Value) (k:Nat) (all:List iR) (O4:List Nat),a'=fr (.slice a l.length cap::gs a' 1 3 (va::vo::gs a' 6 6 (.slice a l.length cap:: .int .i64 l.length:: .int .i64 k::gs a' 15 98 [])))/\Lg l w w' va vo k all O4) (fun a' _=>(l.length - (intOf (a'.tmps.getD 14 undef)).toNat)) ?_ ?_
 ·exact⟨_,_,0,[],[],rfl,by omega,rfl,ea.nil _ _,ea.nil _ _,an _ _,by simp,by simp,by simp,by simp⟩
 ·skip
  rintro R a' w1 ⟨va,vo,k,all,O4,Lp,hJ⟩ HR;dsimp only [fr,gs]at Lp;generalize slot a'=f at Lp;subst Lp;obtain⟨hk,hgo,LM,hopn,hb,ho40,Mh,Pd,hlen⟩:=hJ;obtain⟨ava,capva,rfl,_,hcva,-⟩:=LM.fR jM;obtain⟨avo,capvo,e,_,hcvo,-⟩:=hopn.fR fH;rw [bM]at e;subst e;unfold maxLen at hcva hcvo;obtain⟨n,hn⟩:∃n,O4.length=n:=⟨_,rfl⟩;rw [hn]at hopn ho40⊢;have Ns:=V hn;have HGO:=V hgo;have LJ:=V LM;have NG:=V hopn;have LW:=V Mh;have HPOS:=V Pd;clear hgo LM hopn Mh Pd hn;by_cases q:k < l.length;rotate_left
  ·obtain rfl:k=l.length:=by omega
   have hgo:=HGO.out;rw [List.drop_length,gH]at hgo;rcases n with _ | m
   ·have ho:O4=[]:=aH Ns.out
    have HM:=V (show fI l=some all by unfold fI;rw [if_neg (by omega),hgo];simp [ho]);clear hgo ho;go_wp2_with fail
    go_ret2
    exact⟨hb, .inl ⟨_,_,HM.out,rfl,LJ.out⟩⟩
   ·have ho:O4≠[]:=fun e=>by have:=Ns.out;rw [e]at this;simp at this
    have HM:=V (show fI l=none by unfold fI;rw [if_neg (by omega),hgo];simp [ho]);clear hgo ho;go_wp2_with fail
    go_ret2
    exact⟨hb, .inr ⟨HM.out,rfl⟩⟩
  obtain⟨x,hx⟩:∃x,l[k]?=some x:=⟨_,aw q⟩;obtain⟨b,off,u,rfl,Lw,hc,hu⟩:=(HL.out.below hb).get hx;obtain⟨⟨au,Lx,rfl,-,-,-⟩,-⟩:=id hu;have c0:=hc 0 _ rfl;have c1:=hc 1 _ rfl;have c2:=hc 2 _ rfl;have c3:=hc 3 _ rfl;rw [aK]at c0;obtain⟨op,xa,xb,xl⟩:=x;have HX:=V hx;have QF:=V (fun h=>xY hx HGO.out h q300);have RY:=V (fun Ob h=>ye (Ob:=Ob) hx HGO.out h);clear hc hu hx;go_wp2_with fail;refine(pT op _).mono ?_;rintro e w2 ⟨rfl,Lr⟩;have d0:w2.cell? ⟨w1.heap.size,0,none⟩=some (.int .i64 op):=by rw [Lr.cell (by simp),bQ];rfl
  have hb12:Below w1.heap.size w1 w2:=((an _ _).alloc (ag _) _).trans (Lr.mono (by simp));have hs12:w1.heap.size < w2.heap.size:=by have:=Lr.size;simp at this;omega
  have LJ:=V (LJ.out.below hb12);have NG:=V (NG.out.below hb12);have hb:=hb.trans (hb12.mono hb.size);clear Lr hb12 c0 c1 c2 c3;cases ho:kJ op with
  | true=>
   have HO:=V ho;clear ho;by_cases qn:n=40
   ·subst qn
    have HM:=V (show fI l=none by
     refine QF.out ?_;unfold fO;rw [aJ HO.out,aJ Ns.out])
    go_wp2_with fail
    go_ret2
    exact⟨hb, .inr ⟨HM.out,rfl⟩⟩
   have fn:((n:Int)==40)=false:=ed (by omega);have Ls:=V (RY.out (all++[⟨k,-1,-1⟩],O4++[all.length]) (by
    unfold fO;rw [aJ HO.out,aC (by rw [Ns.out];exact qn)]))
   go_wp2_with fail;refine(pT op _).mono ?_;rintro e w3 ⟨rfl,Mf⟩;rw [HO.out];have LJ:=V (LJ.out.below Mf);have NG:=V (NG.out.below Mf);have hb:=hb.trans (Mf.mono hb.size);clear Mf d0 fn;have RW:=NG.out;go_wp2_with (first | (at_builtin;refine fb w3 rfl _ _ 25 rfl _ 8 (by kernel_rfl) jT rfl (by decide) (by decide) w.heap.size (.slice avo n capvo) (O4.map fun x:Nat=>(x:Int)) rfl RW (all.length:Int) _ rfl rfl (by simp [fp,Value.oneCell']) rfl (by rw [bM,Ns.out];omega) hb.size ?_));intro v4 w4 hopn4 Pb Nr;have RZ:=LJ.out.keeps Pb (fun i hi=>ea.ne LJ.out RW (by decide) i hi);have Nl:=hb.trans (Pb.below hb.size (fun i hi=>(eE RW hi).1));clear Pb Nr RW LJ NG;go_wp2_with (first | (at_builtin;refine fb w4 rfl _ _ 103 rfl _ 24 (by kernel_rfl) Bg rfl (by decide) (by decide) w.heap.size (.slice ava all.length capva) all rfl RZ (⟨k,-1,-1⟩:iR) _ rfl rfl (DN _) rfl (by omega) Nl.size ?_));intro v5 w5 hall5 OM QG;have hopn5:=hopn4.keeps OM (fun i hi=>ea.ne hopn4 RZ (by decide) i hi);have Mw:=Nl.trans (OM.below Nl.size (fun i hi=>(eE RZ hi).1));have LJ:=V hall5;have NG:=V hopn5;clear hall5 hopn5 OM QG RZ hopn4 Nl;go_wp2_with fail;refine HR.out _ _ ⟨_,_,k+1,all++[⟨k,-1,-1⟩],O4++[all.length],rfl,by omega,Ls.out,LJ.out,by rw [bY];exact NG.out,Mw,?_,?_,?_,?_⟩ ?_
   ·rw [ah,Ns.out]
    show n+1 <=40;omega
   ·intro j hj
    rw [ah];show j < all.length+1;rcases aZ.1 hj with h | h
    ·have:=LW.out j h
     omega
    ·rw [aQ.1 h]
     omega
   ·intro b' LP
    rcases aZ.1 LP with h | h
    ·exact HPOS.out b' h
    ·rw [aQ.1 h]
     exact⟨by simp only;omega,by simp only;omega⟩
   ·rw [ah]
    show all.length+1 <=k+1;omega
   ·simp [intOf]
    omega
  | false=>
   have HO:=V ho;clear ho;go_wp2_with fail;refine(pT op _).mono ?_;rintro e w3 ⟨rfl,Mf⟩;rw [HO.out];have d1:w3.cell? ⟨w1.heap.size,0,none⟩=some (.int .i64 op):=by rw [Mf.cell hs12];exact d0
   have LJ:=V (LJ.out.below Mf);have NG:=V (NG.out.below Mf);have hb:=hb.trans (Mf.mono hb.size);clear Mf d0 hs12;by_cases q5:op=5
   ·subst q5
    rcases n with _ | m
    ·have ho:O4=[]:=aH Ns.out
     have HM:=V (QF.out (by
      unfold fO;rw [aC (by rw [HO.out];decide),aC (by simp),ho];rfl))
     clear ho;go_wp2_with fail
     go_ret2
     exact⟨hb, .inr ⟨HM.out,rfl⟩⟩
    have hm0:((m:Int)+1==0)=false:=ed (by omega);obtain⟨j,hj⟩:∃j,O4[m]?=some j:=⟨_,aw (by rw [Ns.out];omega)⟩;have hja:=LW.out j (aO hj);obtain⟨bb,hbj⟩:∃bb,all[j]?=some bb:=⟨_,aw hja⟩;obtain⟨hp0,hp1⟩:=HPOS.out bb (aO hbj);obtain⟨Rq,PO,bfin⟩:=bb;simp only at hp0 hp1;have HGL:=V (show O4.getLast?=some j by rw [dR,Ns.out];exact hj);obtain⟨go,co,curo,e,-,-,-,hgm,-⟩:=NG.out.open (by intro e;have:=Ns.out;rw [List.map_eq_nil_iff.1 e]at this;simp at this);injection e with e1 e2 e3;subst e1 e3;rw [<- e2]at hgm;clear e2;obtain⟨ga,ca,cura,e,hga1,hga2,hga3,-,-⟩:=LJ.out.open (by intro e;rw [e]at hja;simp at hja);injection e with e1 e2 e3;subst e1 e3;clear e2;have o0:=NG.out.cell fH (i:=m) (j:=0) (x:=(j:Int)) (by rw [cT,hj];rfl) rfl;rw [bq,aK]at o0;have a0:=LJ.out.cell jM (i:=j) (j:=0) hbj rfl;have a1:=LJ.out.cell jM (i:=j) (j:=1) hbj rfl;have a2:=LJ.out.cell jM (i:=j) (j:=2) hbj rfl;rw [aK]at a0;have HBJ:=V hbj;clear hbj hj;obtain⟨p,hp⟩:∃p:Nat,Rq=p:=⟨Rq.toNat,by omega⟩;subst hp;have hpl:p < l.length:=by omega
    obtain⟨y,hy⟩:∃y,l[p]?=some y:=⟨_,aw hpl⟩;obtain⟨b',off',u',Qy,-,Na,-⟩:=(HL.out.below hb).get hy;injection Qy with Qy;injection Qy with e1 e2;subst e1 e2;have g0:=Na 0 _ rfl;rw [aK]at g0;obtain⟨yo,ya,yb,yl⟩:=y;have g0:w3.cell? ⟨b,off+p*4,none⟩=some (.int .i64 yo):=g0;have HY:=V hy;have HMS:=V (show fO l k ⟨5,xa,xb,xl⟩ (all,O4)=(if yo≠4\/0 <=PO then none else some (all.set j ⟨p,k,bfin⟩,O4))by
     unfold fO;rw [aC (by rw [HO.out];decide),aC (by simp),HGL.out];simp only;rw [HBJ.out];simp only;rw [aC (by decide)];rw [show((p:Int)).toNat=p by omega,HY.out])
    clear Na hy;by_cases q4:yo=4;rotate_left
    ·have f4:=fw q4
     have HM:=V (QF.out (by rw [HMS.out,aJ (.inl q4)]));clear q4;go_wp2_with fail
     go_ret2
     exact⟨hb, .inr ⟨HM.out,rfl⟩⟩
    subst q4;by_cases qe:0 <=PO
    ·have f4:decide (0 <=PO)=true:=aA qe
     have HM:=V (QF.out (by rw [HMS.out,aJ (.inr qe)]));go_wp2_with fail
     go_ret2
     exact⟨hb, .inr ⟨HM.out,rfl⟩⟩
    have f4:decide (0 <=PO)=false:=aq qe;have Ls:=V (RY.out _ (by rw [HMS.out,aC (by intro h;rcases h with h | h;exact h rfl;exact qe h)]));have hall':=LJ.out.set jM (i:=j) (j:=1) (x:=⟨p,PO,bfin⟩) (y:=⟨p,k,bfin⟩) (u:= .int .i64 k) HBJ.out (by omega) rfl;have hopn':=NG.out.keeps (jh w3 ga (j*3+1) (.int .i64 k)) (fun i hi h=>ea.ne NG.out LJ.out (by decide) i hi (by rw [show i=ga from h];rfl));have LP:=hb.setCell (p:=⟨ga,j*3+1,none⟩) hga1 (.int .i64 k);have z:w3.frozen? ⟨ga,j*3+1,none⟩=false:=dd w3 ga _ cura _ hga3;have HALL':=V hall';have HOPN':=V hopn';clear hall' hopn' HMS hga3;go_wp2_with fail;refine HR.out _ _ ⟨_,_,k+1,all.set j ⟨p,k,bfin⟩,O4,rfl,by omega,Ls.out,HALL'.out,HOPN'.out,LP,by rw [Ns.out];exact ho40,fun i hi=>by rw [da];exact LW.out i hi,fun c hc=>?_,by rw [da];omega⟩ ?_
    ·rcases dv hc with h | h
     ·exact HPOS.out c h
     ·rw [h]
      exact⟨by simp only;omega,by simp only;omega⟩
    ·simp [intOf]
     omega
   by_cases Ph:op=11
   ·subst Ph
    clear q5;rcases n with _ | m
    ·have ho:O4=[]:=aH Ns.out
     have HM:=V (QF.out (by
      unfold fO;rw [aC (by rw [HO.out];decide),aC (by simp),ho];rfl))
     clear ho;go_wp2_with fail
     go_ret2
     exact⟨hb, .inr ⟨HM.out,rfl⟩⟩
    have hm0:((m:Int)+1==0)=false:=ed (by omega);obtain⟨j,hj⟩:∃j,O4[m]?=some j:=⟨_,aw (by rw [Ns.out];omega)⟩;have hja:=LW.out j (aO hj);obtain⟨bb,hbj⟩:∃bb,all[j]?=some bb:=⟨_,aw hja⟩;obtain⟨hp0,hp1⟩:=HPOS.out bb (aO hbj);obtain⟨Rq,PO,bfin⟩:=bb;simp only at hp0 hp1;have HGL:=V (show O4.getLast?=some j by rw [dR,Ns.out];exact hj);obtain⟨go,co,curo,e,-,-,-,hgm,-⟩:=NG.out.open (by intro e;have:=Ns.out;rw [List.map_eq_nil_iff.1 e]at this;simp at this);injection e with e1 e2 e3;subst e1 e3;rw [<- e2]at hgm;clear e2;obtain⟨ga,ca,cura,e,hga1,hga2,hga3,-,-⟩:=LJ.out.open (by intro e;rw [e]at hja;simp at hja);injection e with e1 e2 e3;subst e1 e3;clear e2;have o0:=NG.out.cell fH (i:=m) (j:=0) (x:=(j:Int)) (by rw [cT,hj];rfl) rfl;rw [bq,aK]at o0;have a0:=LJ.out.cell jM (i:=j) (j:=0) hbj rfl;have a1:=LJ.out.cell jM (i:=j) (j:=1) hbj rfl;have a2:=LJ.out.cell jM (i:=j) (j:=2) hbj rfl;rw [aK]at a0;have HBJ:=V hbj;clear hbj hj;have Ls:=V (RY.out (all.set j ⟨Rq,PO,k⟩,O4.dropLast) (by
     unfold fO;rw [aC (by rw [HO.out];decide),aC (by simp),HGL.out];simp only;rw [HBJ.out];simp only;rw [aJ trivial]))
    have hall':=LJ.out.set jM (i:=j) (j:=2) (x:=⟨Rq,PO,bfin⟩) (y:=⟨Rq,PO,k⟩) (u:= .int .i64 k) HBJ.out (by omega) rfl;have hopn':=(NG.out.keeps (jh w3 ga (j*3+2) (.int .i64 k)) (fun i hi h=>ea.ne NG.out LJ.out (by decide) i hi (by rw [show i=ga from h];rfl))).dropLast (by rw [bM,Ns.out]) fH;have LP:=hb.setCell (p:=⟨ga,j*3+2,none⟩) hga1 (.int .i64 k);have z:w3.frozen? ⟨ga,j*3+2,none⟩=false:=dd w3 ga _ cura _ hga3;have OW:=vX (some ⟨go,0,none⟩) m capvo hgm;have HALL':=V hall';have HOPN':=V hopn';clear hall' hopn' hga3;go_wp2_with fail;refine HR.out _ _ ⟨_,_,k+1,all.set j ⟨Rq,PO,k⟩,O4.dropLast,rfl,by omega,Ls.out,HALL'.out,?_,LP,by rw [cR,Ns.out];omega,fun i hi=>by rw [da];exact LW.out i (dO _ hi),fun c hc=>?_,by rw [da];omega⟩ ?_
    ·rw [List.map_dropLast]
     exact HOPN'.out
    ·rcases dv hc with h | h
     ·exact HPOS.out c h
     ·rw [h]
      exact⟨by simp only;omega,by simp only;omega⟩
    ·simp [intOf]
     omega
   have f5:=fw q5;have f11:=fw Ph;have Ls:=V (RY.out (all,O4) (by unfold fO;rw [if_neg (by rw [HO.out];decide),if_pos ⟨q5,Ph⟩]));clear q5 Ph;go_wp2_with fail;refine HR.out _ _ ⟨_,_,k+1,all,O4,rfl,by omega,Ls.out,LJ.out,NG.out,hb,by rw [Ns.out];exact ho40,LW.out,HPOS.out,by omega⟩ ?_;simp [intOf];omega
section
theorem Cm {bits:Int} (hb:bits <=64) (l:List UInt8):iP (jF bits l).1:=by
 unfold jF;split
 ·exact yD
 ·split
  ·rename_i h
   have h1:(2:Int)^(bits.toNat - 1) <=2^63:=by
    have:=cQ (n:=2) (by omega) (show bits.toNat - 1 <=63 by omega)
    exact_mod_cast this
   have h2:(2:Int)^63=9223372036854775808:=by decide
   exact⟨by simp only;omega,by simp only;omega⟩
  ·exact yD
theorem Jl (L:List UInt8) (c:Nat) (s:IR) (hc:c < 256):(IR.get L c s).1.ok:=by
 have hC:iP (c:Int):=⟨by omega,by omega⟩;have hn:∀n:Nat,n <=4294967295 ->iP (n:Int):=fun n h=>⟨by omega,by omega⟩;have hu:∀lim s,lim <=4294967295 ->iP ((IR.kl L lim s).1:Int):=fun lim s h=>hn _ (aW (IR.A0 L lim s) h);have QH:∀n∈([]:List Int),iP n:=by simp
 unfold IR.get;split
 ·refine⟨hC,hn _ ?_,yD,QH⟩
  unfold IR.kind;split
  ·simp
  ·split
   ·simp
   ·split <;>simp
 ·exact⟨hC,hu _ _ (by omega),yD,QH⟩
 ·refine⟨hC,hu _ _ (by omega),yD,?_⟩
  generalize(s.kl L 50).1=k;generalize(s.kl L 50).2=t;intro n hn;rw [List.mem_map]at hn;obtain⟨m,hm,rfl⟩:=hn
  induction k generalizing t with
  | zero=>simp [IR.mK]at hm
  | succ k ih=>
   simp only [IR.mK,bB]at hm;rcases hm with rfl | hm
   ·exact hu _ _ (by omega)
   ·exact ih _ hm
 ·exact⟨hC,hu _ _ (by omega),yD,QH⟩
 ·exact⟨hC,hu _ _ (by omega),hu _ _ (by omega),QH⟩
 ·exact⟨hC,yD,yD,QH⟩
 ·exact⟨hC,Cm (by omega) _,yD,QH⟩
 ·exact⟨hC,Cm (by omega) _,yD,QH⟩
 ·exact⟨hC,yD,yD,QH⟩
theorem get_some {c:UInt8} {l:List UInt8} {x:eS} {s:IR} (hf:fT c.toNat≠0) (hg:IR.get (c::l) c.toNat ⟨1,0⟩=(x,s)) (h:s.err=0):gG (c::l)=some (x,(c::l).drop s.pos):=by
 obtain⟨h1,h2⟩:=IR.sa c l hf;rw [hg]at h1 h2;rw [IR.rest,aJ h]at h1;cases hi:gG (c::l)with
 | none=>rw [hi]at h1;cases h1
 | some y=>
  rw [hi]at h1;injection h1 with h1;have:=h2 y hi;simp only at this;rw [this,h1]
theorem get_none {c:UInt8} {l:List UInt8} {x:eS} {s:IR} (hf:fT c.toNat≠0) (hg:IR.get (c::l) c.toNat ⟨1,0⟩=(x,s)) (h:s.err≠0):gG (c::l)=none:=by
 obtain⟨h1,-⟩:=IR.sa c l hf;rw [hg]at h1;rw [IR.rest,aC h]at h1;cases hi:gG (c::l)with
 | none=>rfl
 | some y=>rw [hi]at h1;cases h1
theorem lX {P:Program} {fn:Func} {t0 u0 u1:Tmp} {ty:TypeId} (h:fn.results=#[.cell t0 ty, .tmp u0, .tmp u1]) (tmps:Array Value) (w:World) {a:Addr} {v:Value} (ht:tmps.getD t0 undef= .pointer (some a))
  (hl:(loadVar ty a).run P w= .ok v w):(results fn tmps).run P w= .ok (.tuple #[v,tmps.getD u0 undef,tmps.getD u1 undef]) w:=by
 have ht':tmps[t0]?.getD undef= .pointer (some a):=by simpa using ht
 simp [results,h,ht',asAddr,hl]
theorem eP.CX {w:World} {X:Nat} {x0 x1 x2:Int} {v:Value} {t:TypeId} (h:eP w X #[.int .i64 x0, .int .i64 x1, .int .i64 x2,v] t):
  (loadVar 27 ⟨X,0,none⟩).run prog w= .ok (.agg #[.int .i64 x0, .int .i64 x1, .int .i64 x2,v]) w:=by
 have hs:(prog.underlying 27).map (fun d=>match d with | .struct _ | .array _ _=>true | _=>false)=some true:=by kernel_rfl
 obtain⟨d,h1,h2⟩:=bC.1 hs;exact bZ w X t 27 _ _ d h h1 (by cases d <;>first | rfl | (exfalso;simp at h2)) (by kernel_rfl)
def CJ (B:Nat) (w:World) (u:Value):Prop:=∀a n cap,u= .slice (some a) n cap ->B <=a.block/\a.block < w.heap.size
def Hk (L:List UInt8) (w:World) (e:Ending) (w':World):Prop:=
 Below w.heap.size w w'/\((∃x r u,gG L=some (x,r)/\e= .returned (.tuple #[.agg #[.int .i64 x.op, .int .i64 x.a, .int .i64 x.b,u], .int .i64 ((L.length - r.length:Nat):Int), .int .i64 0])/\gZ w' x u/\CJ w.heap.size w' u)\/
  (∃err:Int,gG L=none/\err≠0/\(0 <=err/\err <=12)/\e= .returned (.tuple #[.agg #[.int .i64 0, .int .i64 0, .int .i64 0, .slice none 0 0], .int .i64 0, .int .i64 err])))
def wv (w0 w:World) (X2 R X6:Nat) (a:Option Addr) (cap:Nat) (L:List UInt8) (s:IR) (op av bv:Int) (u:Value):Prop:=
 th w0 w R a cap L s/\eP w X6 #[.int .i64 op, .int .i64 av, .int .i64 bv,u] 27/\eP w X2 #[.int .i64 0, .int .i64 0, .int .i64 0, .slice none 0 0] 27/\w0.heap.size <=X2/\X2 < R/\R < X6
section
variable {w0 w w':World} {X2 R X6:Nat} {a:Option Addr} {cap:Nat} {L:List UInt8} {s s':IR} {op av bv:Int} {u:Value}
theorem wv.read (h:wv w0 w X2 R X6 a cap L s op av bv u) (k:th w0 w' R a cap L s') (hk:ee (fun k=>k=R) w w'):wv w0 w' X2 R X6 a cap L s' op av bv u:=by
 obtain⟨h1,h2,h3,h4,h5,h6⟩:=h;exact⟨k,h2.keeps hk (by omega),h3.keeps hk (by omega),h4,h5,h6⟩
theorem wv.BS (h:wv w0 w X2 R X6 a cap L s op av bv u) (n:Int):wv w0 (w.setCell ⟨X6,1,none⟩ (.int .i64 n)) X2 R X6 a cap L s op n bv u:=by
 obtain⟨h1,h2,h3,h4,h5,h6⟩:=h;have hk:=fA w X6 1 (.int .i64 n);exact⟨h1.keeps hk (by omega) (fun i hi=>by omega),by simpa using h2.set 1 (.int .i64 n),h3.keeps hk (by omega),h4,h5,h6⟩
theorem wv.KN (h:wv w0 w X2 R X6 a cap L s op av bv u) (n:Int):wv w0 (w.setCell ⟨X6,2,none⟩ (.int .i64 n)) X2 R X6 a cap L s op av n u:=by
 obtain⟨h1,h2,h3,h4,h5,h6⟩:=h;have hk:=fA w X6 2 (.int .i64 n);exact⟨h1.keeps hk (by omega) (fun i hi=>by omega),by simpa using h2.set 2 (.int .i64 n),h3.keeps hk (by omega),h4,h5,h6⟩
theorem wv.K7 (h:wv w0 w X2 R X6 a cap L s op av bv u) (v:Value):wv w0 (w.setCell ⟨X6,3,none⟩ v) X2 R X6 a cap L s op av bv v:=by
 obtain⟨h1,h2,h3,h4,h5,h6⟩:=h;have hk:=fA w X6 3 v;exact⟨h1.keeps hk (by omega) (fun i hi=>by omega),by simpa using h2.set 3 v,h3.keeps hk (by omega),h4,h5,h6⟩
theorem wv.keeps {S:Nat ->Prop} (h:wv w0 w X2 R X6 a cap L s op av bv u) (hk:ee S w w') (hS:∀i,S i ->X6 < i):wv w0 w' X2 R X6 a cap L s op av bv u:=by
 obtain⟨h1,h2,h3,h4,h5,h6⟩:=h;exact⟨h1.keeps hk (fun g=>by have:=hS _ g;omega) (fun i hi=>by have:=hS _ hi;omega),h2.keeps hk (fun g=>by have:=hS _ g;omega),h3.keeps hk (fun g=>by have:=hS _ g;omega),h4,h5,h6⟩
theorem wv.drew (h:wv w0 w X2 R X6 a cap L s op av bv u):wv w0 w.drew X2 R X6 a cap L s op av bv u:=⟨h.1.drew,h.2.1.drew,h.2.2.1.drew,h.2.2.2⟩
end
theorem mQ (w:World) (X:Nat) (y0 y1 y2 y3:Value):ee (fun k=>k=X) w ((((w.setCell ⟨X,0,none⟩ y0).setCell ⟨X,1,none⟩ y1).setCell ⟨X,2,none⟩ y2).setCell ⟨X,3,none⟩ y3):=
 (((fA w X 0 y0).trans (fA _ X 1 y1) (fun _ h=> .inl h)).trans (fA _ X 2 y2) (fun _ h=> .inl h)).trans (fA _ X 3 y3) (fun _ h=> .inl h)
def KY (w0 w:World) (X2 R X6:Nat) (a:Option Addr) (cap:Nat) (L:List UInt8) (c:Nat) (s1:IR) (n k:Nat) (acc:List Nat) (s:IR) (u:Value):Prop:=
 k <=n/\acc.length=k/\(s1.mK L n).1=acc++(s.mK L (n - k)).1/\(s1.mK L n).2=(s.mK L (n - k)).2/\wv w0 w X2 R X6 a cap L s c 0 0 u/\ea 3 1 fp w (X6+1) u (acc.map fun x:Nat=>(x:Int))
def uA (w:World) (X2 R X6:Nat) (a:Option Addr) (cap:Nat) (L:List UInt8) (c:Nat):Act ->World ->Prop:=
 (fun a' w'=>∃(s:IR) (x:eS) (u:Value),a'=fr (gs a' 0 2 (.pointer (some ⟨X2,0,none⟩):: .int .i64 0:: .int .i64 0:: .pointer (some ⟨R,0,none⟩):: .pointer (some ⟨X6,0,none⟩)::gs a' 7 97 []))/\wv w w' X2 R X6 a cap L s x.op x.a x.b u/\(ew 1 fp w' u x.l/\CJ (X2+1) w' u)/\IR.get L c ⟨1,0⟩=(x,s))
theorem rr (b:Value) (L:List UInt8) (w:World) (hb:eW w b L) (hl:L.length <=1000000):Calls prog 289 #[b] w (Hk L w):=by
 obtain⟨a,cap,rfl,Mk,NZ,-⟩:=id hb;have HB:=V hb;unfold maxLen at NZ;clear hb;go_enter func289,ntmps289;go_wp2_with fail;have hrd0:th w ((w.alloc (.cells #[.int .i64 0, .int .i64 0, .int .i64 0, .slice none 0 0] 27)).alloc (.cells #[.slice a L.length cap, .int .i64 0, .int .i64 0] 347)) (w.heap.size+1) a cap L ⟨0,0⟩:=by
  have h1:=eP.new (w.alloc (.cells #[.int .i64 0, .int .i64 0, .int .i64 0, .slice none 0 0] 27)) #[.slice a L.length cap, .int .i64 0, .int .i64 0] 347;rw [aE]at h1;exact⟨h1,HB.out,((an _ _).alloc (ag _) _).alloc (by simp) _,by omega,⟨bA _,by decide,by decide⟩⟩
 have OX:=(eP.new w #[.int .i64 0, .int .i64 0, .int .i64 0, .slice none 0 0] 27).alloc (.cells #[.slice a L.length cap, .int .i64 0, .int .i64 0] 347);refine(qO w _ _ a cap L ⟨0,0⟩ hrd0).mono ?_;rintro e w3 ⟨rfl,h1,hk⟩;obtain⟨c,hc⟩:∃c,(IR.byte L ⟨0,0⟩).1=c:=⟨_,rfl⟩;obtain⟨s1,MU⟩:∃s1,(IR.byte L ⟨0,0⟩).2=s1:=⟨_,rfl⟩;rw [hc];rw [MU]at h1;have hx3:=OX.keeps hk (by omega);have OV:w.heap.size+1 < w3.heap.size:=h1.1.lt;have HC:=V hc;have NB:=V MU;have L4:=V h1;have Mi:=V hx3;clear h1 hk OX hx3 hrd0 hc MU;go_wp2_with fail;refine(uT c _).mono ?_;rintro e w5 ⟨rfl,Mw⟩;have hg:wv w w5 w.heap.size (w.heap.size+1) w3.heap.size a cap L s1 c 0 0 (.slice none 0 0):=by
  have M5:Below w3.heap.size w3 w5:=((an _ _).alloc (ag _) _).trans (Mw.mono (by simp));exact⟨L4.out.keeps (ee.eh (S:=fun _=>False) M5) (fun h=>h) (fun _ h=>h.elim),(eP.new w3 _ _).below Mw (by simp),Mi.out.below M5 Mi.out.lt,ag _,by omega,OV⟩
 have HG:=V hg;clear hg Mw Mi L4 OV;generalize w.heap.size+1=R at HG⊢;generalize w.heap.size=X2 at HG⊢;generalize w3.heap.size=X6 at HG⊢;have R0:L=[]\/∃c0 l,L=c0::l:=by cases L with | nil=>exact .inl rfl | cons c0 l=>exact .inr ⟨c0,l,rfl⟩
 rcases R0 with hL | ⟨c0,l,hL⟩
 ·have h1:s1=⟨0,2⟩:=by rw [<- NB.out,hL];rfl
  have h2:c=0:=by rw [<- HC.out,hL];rfl
  subst h1 h2;have HN:=V (show gG L=none by rw [hL];rfl);have R9:=V (show(2:Int)≠0 by decide);have hf0:fT ((0:Nat):Int)=1:=by decide
  rw [hf0];clear hf0 hL NB HC;obtain⟨M6,-,N3,NH,hoo2,hoo3⟩:=HG.out;obtain⟨⟨x0,x1,x2,x3⟩,g0,g1,g2,g3⟩:=N3.four;have d2:(w5).cell? ⟨R,2,none⟩=some (.int .i64 (IR.err ⟨0,2⟩)):=M6.1.cell 2;have Ng:=mQ (w5).drew X2 (.int .i64 0) (.int .i64 0) (.int .i64 0) (.slice none 0 0);have Rr:=(M6.1.drew.keeps Ng (by omega)).cell 2;have HX:=V (N3.drew.sx (.int .i64 0) (.int .i64 0) (.int .i64 0) (.slice none 0 0));have Qb:=V Rr;have L9:=V (((((M6.2.2.1.drew).setCell (p:=⟨X2,0,none⟩) NH (.int .i64 0)).setCell (p:=⟨X2,1,none⟩) NH (.int .i64 0)).setCell (p:=⟨X2,2,none⟩) NH (.int .i64 0)).setCell (p:=⟨X2,3,none⟩) NH (.slice none 0 0));clear M6 N3 Ng Rr
  go_upto_region 7 with fail
  refine eu (fun w'=>w'.cell? ⟨R,2,none⟩=some (.int .i64 (IR.err ⟨0,2⟩))) (up 0 5 ((5,false)::(6,true)::(7,true)::[])) (by kernel_rfl) (by kernel_rfl) d2 ?_;iterate 5 (first | (apply sk rfl rfl;simp only [pt]) | (apply ef rfl rfl rfl;·(rintro w' t0;go_wp2;exact⟨rfl,rfl,rfl⟩)))
  refine eo rfl rfl ?_;go_wp2_with fail;refine⟨Qb.out,?_⟩;iterate 2 (first | (apply sk rfl rfl;simp only [pt]) | (apply ef rfl rfl rfl;·(rintro w' t0;go_wp2;exact⟨rfl,rfl,rfl⟩)))
  refine eV ?_;refine aD ?_;go_wp2_with fail;refine aN (lX rfl _ _ rfl HX.out.CX) rfl ?_;exact⟨L9.out, .inr ⟨_,HN.out,R9.out,HG.out.1.2.2.2.2.2,rfl⟩⟩
 ·have h1:s1=⟨1,0⟩:=by rw [<- NB.out,hL];rfl
  have h2:c=c0.toNat:=by rw [<- HC.out,hL];rfl
  subst h1 h2;have Oq:c0.toNat < 256:=c0.toNat_lt;obtain⟨f,hf⟩:∃f,fT (c0.toNat:Int)=f:=⟨_,rfl⟩;have RT:f <=9:=by rw [<- hf];exact od _
  rw [hf];by_cases hz:f=0
  ·subst hz
   have HN:=V (show gG L=none by rw [hL];unfold gG;dsimp only;rw [hf];rfl);have R9:=V (show(1:Int)≠0 by decide);have LI:=HG.out.read (HG.out.1.set (s':=⟨1,1⟩) (i:=2) (v:= .int .i64 1) rfl ⟨by rw [hL];simp,by decide,by decide⟩) (fA w5 R 2 _);have z2:=HG.out.1.1.free 2;have d2:w5.cell? ⟨R,2,none⟩=some (.int .i64 0):=HG.out.1.1.cell 2;clear hf NB HC RT hL HG
   go_upto_region 6 with fail
   generalize w5.setCell ⟨R,2,none⟩ (.int .i64 1)=w6 at LI⊢;have HG:=V LI;clear LI z2 d2;obtain⟨M6,-,N3,NH,hoo2,hoo3⟩:=HG.out;obtain⟨⟨x0,x1,x2,x3⟩,g0,g1,g2,g3⟩:=N3.four;have d2:(w6).cell? ⟨R,2,none⟩=some (.int .i64 (IR.err ⟨1,1⟩)):=M6.1.cell 2;have Ng:=mQ (w6).drew X2 (.int .i64 0) (.int .i64 0) (.int .i64 0) (.slice none 0 0);have Rr:=(M6.1.drew.keeps Ng (by omega)).cell 2;have HX:=V (N3.drew.sx (.int .i64 0) (.int .i64 0) (.int .i64 0) (.slice none 0 0));have Qb:=V Rr;have L9:=V (((((M6.2.2.1.drew).setCell (p:=⟨X2,0,none⟩) NH (.int .i64 0)).setCell (p:=⟨X2,1,none⟩) NH (.int .i64 0)).setCell (p:=⟨X2,2,none⟩) NH (.int .i64 0)).setCell (p:=⟨X2,3,none⟩) NH (.slice none 0 0));clear M6 N3 Ng Rr
   go_upto_region 7 with fail
   refine eu (fun w'=>w'.cell? ⟨R,2,none⟩=some (.int .i64 (IR.err ⟨1,1⟩))) (up 0 5 ((5,false)::(6,true)::(7,true)::[])) (by kernel_rfl) (by kernel_rfl) d2 ?_;iterate 5 (first | (apply sk rfl rfl;simp only [pt]) | (apply ef rfl rfl rfl;·(rintro w' t0;go_wp2;exact⟨rfl,rfl,rfl⟩)))
   refine eo rfl rfl ?_;go_wp2_with fail;refine⟨Qb.out,?_⟩;iterate 2 (first | (apply sk rfl rfl;simp only [pt]) | (apply ef rfl rfl rfl;·(rintro w' t0;go_wp2;exact⟨rfl,rfl,rfl⟩)))
   refine eV ?_;refine aD ?_;go_wp2_with fail;refine aN (lX rfl _ _ rfl HX.out.CX) rfl ?_;exact⟨L9.out, .inr ⟨_,HN.out,R9.out,HG.out.1.2.2.2.2.2,rfl⟩⟩
  have HF:=V hf;have HL:=V hL;have HF9:=V RT;have Nm:((f:Int)==0)=false:=ed (by omega);clear hf NB HC hL RT;obtain⟨M6,hb6x,N3,-,hoo2,hoo3⟩:=HG.out;obtain⟨⟨e0,e1,e2,e3⟩,-,y1,y2,y3⟩:=hb6x.four;have d1:(w5).cell? ⟨R,1,none⟩=some (.int .i64 (IR.pos ⟨1,0⟩)):=M6.1.cell 1;have d2:(w5).cell? ⟨R,2,none⟩=some (.int .i64 (IR.err ⟨1,0⟩)):=M6.1.cell 2;have z2:=M6.1.free 2;clear M6 hb6x N3
  go_upto_region 9 with fail
  rename_i K1 h1 K2 h2;have HK:Hid (∀a' w',uA w X2 R X6 a cap L c0.toNat a' w' ->K1 a' w'):=V (by
   clear h2 Nm d1 d2 z2 e0 e1 e2 e3 y1 y2 y3;rintro a' w7 h;unfold uA at h;obtain⟨s,x,u,Lp,hg,⟨hu,hfu⟩,hget⟩:=h;dsimp only [fr,gs]at Lp;generalize slot a'=g at Lp;subst Lp;apply h1;clear h1;have Ly:=Jl L c0.toNat ⟨1,0⟩ Oq;rw [hget]at Ly;obtain⟨xo,xa,xb,xl⟩:=x;simp only at hu hg Ly;have HGT:=V hget;have ME:=V Ly;have HU:=V hu;have HFU:=V hfu;have HG:=V hg;have PQ:=V (show fT c0.toNat≠0 by rw [HF.out];exact hz);have hn:∀s':IR,s'=s ->s'.err≠0 ->gG L=none:=fun s' e h=>by rw [HL.out];exact get_none PQ.out (by rw [<- HL.out,HGT.out]) (by rw [<- e];exact h)
   have OF:s.err=0 ->gG L=some (⟨xo,xa,xb,xl⟩,L.drop s.pos):=fun h=>by rw [HL.out];exact get_some PQ.out (by rw [<- HL.out,HGT.out]) h
   have HNN:=V hn;have HSM:=V OF;clear Ly hget hu hfu hg hn OF;by_cases q:s.err=0;rotate_left
   ·have f1:=fw q
    have HN:=V (HNN.out s rfl q);have R9:=V q;clear q;obtain⟨M6,-,N3,NH,hoo2,hoo3⟩:=HG.out;obtain⟨⟨x0,x1,x2,x3⟩,g0,g1,g2,g3⟩:=N3.four;have d2:(w7).cell? ⟨R,2,none⟩=some (.int .i64 (IR.err s)):=M6.1.cell 2;have Ng:=mQ (w7).drew X2 (.int .i64 0) (.int .i64 0) (.int .i64 0) (.slice none 0 0);have Rr:=(M6.1.drew.keeps Ng (by omega)).cell 2;have HX:=V (N3.drew.sx (.int .i64 0) (.int .i64 0) (.int .i64 0) (.slice none 0 0));have Qb:=V Rr;have L9:=V (((((M6.2.2.1.drew).setCell (p:=⟨X2,0,none⟩) NH (.int .i64 0)).setCell (p:=⟨X2,1,none⟩) NH (.int .i64 0)).setCell (p:=⟨X2,2,none⟩) NH (.int .i64 0)).setCell (p:=⟨X2,3,none⟩) NH (.slice none 0 0));clear M6 N3 Ng Rr
    go_upto_region 32 with fail
    refine eu (fun w'=>w'.cell? ⟨R,2,none⟩=some (.int .i64 (IR.err s))) (up 0 5 ((5,false)::(6,true)::(7,true)::[])) (by kernel_rfl) (by kernel_rfl) d2 ?_;iterate 5 (first | (apply sk rfl rfl;simp only [pt]) | (apply ef rfl rfl rfl;·(rintro w' t0;go_wp2;exact⟨rfl,rfl,rfl⟩)))
    refine eo rfl rfl ?_;go_wp2_with fail;refine⟨Qb.out,?_⟩;iterate 2 (first | (apply sk rfl rfl;simp only [pt]) | (apply ef rfl rfl rfl;·(rintro w' t0;go_wp2;exact⟨rfl,rfl,rfl⟩)))
    refine eV ?_;refine aD ?_;go_wp2_with fail;refine aN (lX rfl _ _ rfl HX.out.CX) rfl ?_;exact⟨L9.out, .inr ⟨_,HN.out,R9.out,HG.out.1.2.2.2.2.2,rfl⟩⟩
   ·have HI:=V (HSM.out q)
    have d2:w7.cell? ⟨R,2,none⟩=some (.int .i64 0):=by rw [<- q];exact HG.out.1.1.cell 2
    obtain⟨au,Lx,rfl,-,-,-⟩:=id HU.out;clear q HNN HSM;obtain⟨M6,hb6x,N3,NH,hoo2,hoo3⟩:=HG.out;obtain⟨⟨x0,x1,x2,x3⟩,g0,g1,g2,g3⟩:=N3.four;have d1:w7.cell? ⟨R,1,none⟩=some (.int .i64 s.pos):=M6.1.cell 1;obtain⟨⟨l0,l1,l2,l3⟩,-⟩:=hb6x.four;have Ng:=mQ w7.drew X2 (.int .i64 xo) (.int .i64 xa) (.int .i64 xb) (.slice au xl.length Lx);have HD1:=V ((M6.1.drew.keeps Ng (by omega)).cell 1);have HL6:=V (hb6x.drew.keeps Ng (by omega)).four.1;have HX:=V (N3.drew.sx (.int .i64 xo) (.int .i64 xa) (.int .i64 xb) (.slice au xl.length Lx));have L9:=V (((((M6.2.2.1.drew).setCell (p:=⟨X2,0,none⟩) NH (.int .i64 xo)).setCell (p:=⟨X2,1,none⟩) NH (.int .i64 xa)).setCell (p:=⟨X2,2,none⟩) NH (.int .i64 xb)).setCell (p:=⟨X2,3,none⟩) NH (.slice au xl.length Lx));have hu9:=HU.out.keeps Ng.Bn (fun b n c e h=>by have:=(HFU.out b n c e).1;have h':b.block=X2:=h;omega);have RT:CJ w.heap.size ((((w7.drew.setCell ⟨X2,0,none⟩ (.int .i64 xo)).setCell ⟨X2,1,none⟩ (.int .i64 xa)).setCell ⟨X2,2,none⟩ (.int .i64 xb)).setCell ⟨X2,3,none⟩ (.slice au xl.length Lx)) (.slice au xl.length Lx):=fun b n c e=>by
     obtain⟨k1,k2⟩:=HFU.out b n c e;exact⟨by omega,by simpa using k2⟩
    have HU9:=V hu9;have HF9':=V RT;have hpl:s.pos <=L.length:=M6.2.2.2.2.1;have HPL:=V hpl;clear M6 hb6x N3 Ng hu9 RT hpl
    go_upto_region 33 with fail
    refine eu (fun w'=>w'.cell? ⟨R,1,none⟩=some (.int .i64 s.pos)/\w'.cell? ⟨X6,0,none⟩=some (.int .i64 xo)/\w'.cell? ⟨X6,1,none⟩=some (.int .i64 xa)/\w'.cell? ⟨X6,2,none⟩=some (.int .i64 xb)/\w'.cell? ⟨X6,3,none⟩=some (.slice au xl.length Lx)) (up 0 5 ((5,false)::(6,true)::(7,true)::[])) (by kernel_rfl) (by kernel_rfl) ⟨d1,l0,l1,l2,l3⟩ ?_;iterate 5 (first | (apply sk rfl rfl;simp only [pt]) | (apply ef rfl rfl rfl;·(rintro w' ⟨t0,t1,t2,t3,t4⟩;go_wp2;exact⟨rfl,rfl,rfl⟩)))
    refine eo rfl rfl ?_;go_wp2_with fail;refine⟨⟨HD1.out,HL6.out⟩,?_⟩;iterate 2 (first | (apply sk rfl rfl;simp only [pt]) | (apply ef rfl rfl rfl;·(rintro w' ⟨t0,t1,t2,t3,t4⟩;go_wp2;exact⟨rfl,rfl,rfl⟩)))
    refine eV ?_;refine aD ?_;go_wp2_with fail;refine aN (lX rfl _ _ rfl HX.out.CX) rfl ?_;refine⟨L9.out, .inl ⟨_,_,_,HI.out,?_,⟨HU9.out,ME.out⟩,HF9'.out⟩⟩;have e:((L.length - (L.drop s.pos).length:Nat):Int)=s.pos:=by
     rw [bu];have:=HPL.out;omega
    rw [e];rfl
   )
  clear h1 d1 d2 z2;have MI:=HK;clear HK;rcases(show f=1\/f=2\/f=3\/f=4\/f=5\/f=6\/f=7\/f=8\/f=9 by have:=HF9.out;omega)with rfl | rfl | rfl | rfl | rfl | rfl | rfl | rfl | rfl
  ·clear hz Nm e1 e2 e3 y1 y2 y3 Mk NZ Oq
   have HI:=V (show IR.get L c0.toNat ⟨1,0⟩=(⟨c0.toNat,0,0,[]⟩,⟨1,0⟩)by unfold IR.get;rw [HF.out];rfl);go_wp2_with fail;refine MI.out _ _ ?_;unfold uA;exact⟨_,_,_,rfl,HG.out,⟨ew.nil _,fun _ _ _ h=>by cases h⟩,HI.out⟩
  ·skip
   clear hz Nm Mk NZ Oq;have HI:=V (show IR.get L c0.toNat ⟨1,0⟩=(⟨c0.toNat,(IR.kind L ⟨1,0⟩).1,0,[]⟩,(IR.kind L ⟨1,0⟩).2)by unfold IR.get;rw [HF.out];rfl);go_wp2_with fail;refine(AQ w w5 R a cap L ⟨1,0⟩ HG.out.1).mono ?_;rintro e w8 ⟨rfl,hr,hk⟩;have OG:=V (HG.out.read hr hk);obtain⟨⟨e0',e1',e2',e3'⟩,-,y1',y2',y3'⟩:=OG.out.2.1.four;clear hr hk e0 e1 e2 e3 y1 y2 y3;go_wp2_with fail;refine MI.out _ _ ?_;unfold uA;exact⟨_,⟨_,_,_,_⟩,_,rfl,OG.out.BS _,⟨ew.nil _,fun _ _ _ h=>by cases h⟩,HI.out⟩
  ·skip
   clear hz Nm Mk NZ Oq;have HI:=V (show IR.get L c0.toNat ⟨1,0⟩=(⟨c0.toNat,(IR.kl L 1000 ⟨1,0⟩).1,0,[]⟩,(IR.kl L 1000 ⟨1,0⟩).2)by unfold IR.get;rw [HF.out];rfl);go_wp2_with fail;refine(lL w w5 R a cap L ⟨1,0⟩ HG.out.1 1000).mono ?_;rintro e w8 ⟨rfl,hr,hk⟩;have OG:=V (HG.out.read hr hk);obtain⟨⟨e0',e1',e2',e3'⟩,-,y1',y2',y3'⟩:=OG.out.2.1.four;clear hr hk e0 e1 e2 e3 y1 y2 y3;go_wp2_with fail;refine MI.out _ _ ?_;unfold uA;exact⟨_,⟨_,_,_,_⟩,_,rfl,OG.out.BS _,⟨ew.nil _,fun _ _ _ h=>by cases h⟩,HI.out⟩
  ·skip
   clear hz Nm Mk NZ Oq;obtain⟨n,hn⟩:∃n,(IR.kl L 50 ⟨1,0⟩).1=n:=⟨_,rfl⟩;obtain⟨s1,MU⟩:∃s1,(IR.kl L 50 ⟨1,0⟩).2=s1:=⟨_,rfl⟩;have hn50:n <=50:=by rw [<- hn];exact IR.A0 L 50 _
   have HI:=V (show IR.get L c0.toNat ⟨1,0⟩=(⟨c0.toNat,((s1.mK L n).2.kl L 1000).1,0,(s1.mK L n).1.map fun x:Nat=>(x:Int)⟩,((s1.mK L n).2.kl L 1000).2)by unfold IR.get;rw [HF.out];rw [<- hn, <- MU];rfl);have HN:=V hn;have NB:=V MU;clear hn MU;go_wp2_with fail;refine(lL w w5 R a cap L ⟨1,0⟩ HG.out.1 50).mono ?_;rintro e w8 ⟨rfl,hr,hk⟩;have hg8:=HG.out.read hr hk;rw [HN.out];rw [NB.out]at hg8;have OG:=V hg8;clear hr hk hg8 e0 e1 e2 e3 y1 y2 y3;go_wp2_with fail;refine eJ (fun a' w'=>∃(k:Nat) (acc:List Nat) (s:IR) (u:Value),a'=fr (gs a' 0 2 (.pointer (some ⟨X2,0,none⟩):: .int .i64 0:: .int .i64 0:: .pointer (some ⟨R,0,none⟩):: .pointer (some ⟨X6,0,none⟩)::gs a' 7 46 (.int .i64 n:: .int .i64 k::gs a' 55 49 [])))/\KY w w' X2 R X6 a cap L c0.toNat s1 n k acc s u) (fun a' _=>(n - (intOf (a'.tmps.getD 54 undef)).toNat)) ?_ ?_
   ·exact⟨0,[],s1,_,rfl,by omega,rfl,rfl,rfl,OG.out,ea.nil _ _⟩
   ·skip
    rintro RR a' w1 ⟨k,acc,s,u,Lp,hJ⟩ HR;dsimp only [fr,gs]at Lp;generalize slot a'=f at Lp;subst Lp;obtain⟨hk,rfl,Ro,hl2,hg,ho⟩:=hJ;obtain⟨au,Lx,hu,_,NC,-⟩:=ho.fR fH;rw [bM]at hu;subst hu;unfold maxLen at NC;have HGK:=V hg;have HO:=V ho;have Rg:=V Ro;have QY:=V hl2;clear Ro hl2 hg ho;by_cases q:acc.length < n
    ·have c3:w1.cell? ⟨X6,3,none⟩=some (.slice au acc.length Lx):=HGK.out.2.1.cell 3
     go_wp2_with fail;refine eX (fun w'=>w'.cell? ⟨X6,3,none⟩=some (.slice au acc.length Lx)) 7
      (up 0 3 ((3,false)::(4,false)::(5,false)::(6,true)::[])) (by kernel_rfl) (by kernel_rfl) c3 ?_
     clear c3;iterate 3 (first | (apply sk rfl rfl;simp only [pt]) | (apply ef rfl rfl rfl;·(rintro w' t0;go_wp2;exact⟨rfl,rfl,rfl⟩)))
     refine eo rfl rfl ?_;go_wp2_with fail;refine(lL w w1.drew R a cap L s HGK.out.1.drew 1000).mono ?_;rintro e w8 ⟨rfl,hr,NU⟩;obtain⟨m,hm⟩:∃m,(IR.kl L 1000 s).1=m:=⟨_,rfl⟩;obtain⟨s2,LB⟩:∃s2,(IR.kl L 1000 s).2=s2:=⟨_,rfl⟩;rw [hm];rw [LB]at hr;have hm1:m <=1000:=by rw [<- hm];exact IR.A0 L 1000 s
     have HM:=V hm;have LZ:=V LB;have hg8:=HGK.out.drew.read hr NU;have hk18:=NU.Bn;have ho8:=HO.out.keeps hk18 (fun i hi h=>by have:=(eE HO.out hi).1;have h':i=R:=h;omega);have OG:=V hg8;clear hm LB hr NU hk18 hg8;go_wp2_with fail;refine⟨OG.out.2.1.cell 3,?_⟩;refine eo rfl rfl ?_;go_wp2_with fail;refine⟨(OG.out.2.1.alloc _).cell 3,?_⟩;refine eo rfl rfl ?_;refine fb w8 rfl _ _ 25 rfl _ 8 (by kernel_rfl) (show(prog.info? 3).map (fun i=>(i.zero,i.size,i.bytes))=some (some (.int .i64 0),1,8)by kernel_rfl) rfl (by decide) (by decide) (X6+1) (.slice au acc.length Lx) (acc.map fun x:Nat=>(x:Int)) rfl ho8 (m:Int) _ rfl rfl (by simp [fp,Value.oneCell']) rfl (by rw [bM];omega) (by have:=OG.out.2.1.lt;omega) ?_;intro v10 w10 PN P2 hs10;have Lo:∀i,eH (.slice au acc.length Lx) i ->X6+1 <=i:=fun i hi=>(eE ho8 hi).1;have hg10:=OG.out.keeps P2 (fun i hi=>by have:=Lo i hi;omega);generalize hA:acc.map (fun x:Nat=>(x:Int))++[(m:Int)]=Oz at PN;have HA:=V hA;obtain⟨a9,cap9,rfl,-,-⟩:=PN.fR fH;have c3:w10.cell? ⟨X6,3,none⟩=some (.slice au acc.length Lx):=hg10.2.1.cell 3;have y3:=hg10.2.1.free 3;have HG11:=V (hg10.K7 (.slice a9 Oz.length cap9));have HK11:=V (fA w10 X6 3 (.slice a9 Oz.length cap9));have HO10:=V PN;clear P2 hs10 Lo hg10 ho8 OG PN hA;go_wp2_with fail;refine⟨c3,?_⟩;iterate 1 (first | (apply sk rfl rfl;simp only [pt]) | (apply ef rfl rfl rfl;·(rintro w' t0;go_wp2;exact⟨rfl,rfl,rfl⟩)))
     refine fP rfl rfl ?_;go_wp2_with fail;refine⟨trivial,?_⟩;refine aD ?_;go_wp2_with fail;refine HR.out _ _ ⟨acc.length+1,acc++[m],s2, .slice a9 Oz.length cap9,rfl,?_⟩ ?_
     ·have e1:n - acc.length=(n - (acc.length+1))+1:=by omega
      refine⟨by omega,by rw [ah];rfl,?_,?_,HG11.out,?_⟩
      ·rw [Rg.out,e1,IR.mK,HM.out,LZ.out,aP]
       rfl
      ·rw [QY.out,e1,IR.mK,LZ.out]
      ·rw [bY,List.map_singleton,HA.out]
       exact HO10.out.keeps HK11.out (fun i hi h=>by have:=(eE HO10.out hi).1;have h':i=X6:=h;omega)
     ·simp [intOf]
      omega
    ·obtain rfl:n=acc.length:=by omega
     have hL:(s1.mK L acc.length)=(acc,s):=by
      rw [Prod.ext_iff];refine⟨?_,?_⟩
      ·rw [Rg.out,dk,IR.mK]
       simp
      ·rw [QY.out,dk,IR.mK]
     replace HI:=V (show IR.get L c0.toNat ⟨1,0⟩=(⟨c0.toNat,(s.kl L 1000).1,0,acc.map fun x:Nat=>(x:Int)⟩,(s.kl L 1000).2)by rw [HI.out,hL]);clear hL Rg QY hk;go_wp2_with fail;refine(lL w w1 R a cap L s HGK.out.1 1000).mono ?_;rintro e w8 ⟨rfl,hr,NU⟩;have OG:=V (HGK.out.read hr NU);have ho8:=HO.out.keeps NU (fun i hi h=>by have:=(eE HO.out hi).1;have h':i=R:=h;omega);obtain⟨⟨e0,e1,e2,e3⟩,-,y1,y2,y3⟩:=OG.out.2.1.four;have ho9:=ho8.keeps (fA w8 X6 1 (.int .i64 (s.kl L 1000).1)) (fun i hi h=>by have:=(eE ho8 hi).1;have h':i=X6:=h;omega);have HO9:=V ho9;clear hr NU ho8 ho9;go_wp2_with fail;refine MI.out _ _ ?_;unfold uA;refine⟨_,⟨_,_,_,_⟩,_,rfl,OG.out.BS _,⟨HO9.out.fR fH,fun b n c e=>?_⟩,HI.out⟩;have:=HO9.out.block b n c e;exact⟨by omega,this.2⟩
  ·skip
   clear hz Nm Mk NZ Oq;have HI:=V (show IR.get L c0.toNat ⟨1,0⟩=(⟨c0.toNat,(IR.kl L 1000 ⟨1,0⟩).1,0,[]⟩,(IR.kl L 1000 ⟨1,0⟩).2.zero L)by unfold IR.get;rw [HF.out];rfl);go_wp2_with fail;refine(lL w w5 R a cap L ⟨1,0⟩ HG.out.1 1000).mono ?_;rintro e w8 ⟨rfl,hr,hk⟩;have OG:=V (HG.out.read hr hk);obtain⟨⟨e0',e1',e2',e3'⟩,-,y1',y2',y3'⟩:=OG.out.2.1.four;clear hr hk e0 e1 e2 e3 y1 y2 y3;have hg9:=OG.out.BS (IR.kl L 1000 ⟨1,0⟩).1;go_wp2_with fail;generalize(w8.setCell ⟨X6,1,none⟩ (.int .i64 (IR.kl L 1000 ⟨1,0⟩).1))=w9 at hg9⊢;refine(uF w w9 R a cap L _ hg9.1).mono ?_;rintro e w10 ⟨rfl,hr,hk⟩;have HG10:=V (hg9.read hr hk);clear hr hk hg9 e0' e1' e2' e3' y1' y2' y3';go_wp2_with fail;refine MI.out _ _ ?_;unfold uA;exact⟨_,⟨_,_,_,_⟩,_,rfl,HG10.out,⟨ew.nil _,fun _ _ _ h=>by cases h⟩,HI.out⟩
  ·skip
   clear hz Nm Mk NZ Oq;have HI:=V (show IR.get L c0.toNat ⟨1,0⟩=(⟨c0.toNat,(IR.kl L 3 ⟨1,0⟩).1,((IR.kl L 3 ⟨1,0⟩).2.kl L 4294967295).1,[]⟩,((IR.kl L 3 ⟨1,0⟩).2.kl L 4294967295).2)by unfold IR.get;rw [HF.out];rfl);go_wp2_with fail;refine(lL w w5 R a cap L ⟨1,0⟩ HG.out.1 3).mono ?_;rintro e w8 ⟨rfl,hr,hk⟩;have OG:=V (HG.out.read hr hk);obtain⟨⟨e0',e1',e2',e3'⟩,-,y1',y2',y3'⟩:=OG.out.2.1.four;clear hr hk e0 e1 e2 e3 y1 y2 y3;have hg9:=OG.out.BS (IR.kl L 3 ⟨1,0⟩).1;go_wp2_with fail;generalize(w8.setCell ⟨X6,1,none⟩ (.int .i64 (IR.kl L 3 ⟨1,0⟩).1))=w9 at hg9⊢;refine(lL w w9 R a cap L _ hg9.1 4294967295).mono ?_;rintro e w10 ⟨rfl,hr,hk⟩;have HG10:=V (hg9.read hr hk);obtain⟨⟨e0,e1,e2,e3⟩,-,y1,y2,y3⟩:=HG10.out.2.1.four;clear hr hk hg9 e0' e1' e2' e3' y1' y2' y3';go_wp2_with fail;refine MI.out _ _ ?_;unfold uA;exact⟨_,⟨_,_,_,_⟩,_,rfl,HG10.out.KN _,⟨ew.nil _,fun _ _ _ h=>by cases h⟩,HI.out⟩
  ·skip
   clear hz Nm Mk NZ Oq;have HI:=V (show IR.get L c0.toNat ⟨1,0⟩=(⟨c0.toNat,0,0,[]⟩,IR.zero L ⟨1,0⟩)by unfold IR.get;rw [HF.out];rfl);go_wp2_with fail;refine(uF w w5 R a cap L ⟨1,0⟩ HG.out.1).mono ?_;rintro e w8 ⟨rfl,hr,hk⟩;have OG:=V (HG.out.read hr hk);clear hr hk e0 e1 e2 e3 y1 y2 y3;go_wp2_with fail;refine MI.out _ _ ?_;unfold uA;exact⟨_,⟨_,_,_,_⟩,_,rfl,OG.out,⟨ew.nil _,fun _ _ _ h=>by cases h⟩,HI.out⟩
  ·skip
   clear hz Nm Mk NZ Oq;have HI:=V (show IR.get L c0.toNat ⟨1,0⟩=(⟨c0.toNat,(IR.qG L 32 ⟨1,0⟩).1,0,[]⟩,(IR.qG L 32 ⟨1,0⟩).2)by unfold IR.get;rw [HF.out];rfl);go_wp2_with fail;refine(wO w w5 R a cap L ⟨1,0⟩ HG.out.1 rfl 32 (by decide) (by decide)).mono ?_;rintro e w8 ⟨rfl,hr,hk⟩;have OG:=V (HG.out.read hr hk);obtain⟨⟨e0',e1',e2',e3'⟩,-,y1',y2',y3'⟩:=OG.out.2.1.four;clear hr hk e0 e1 e2 e3 y1 y2 y3;go_wp2_with fail;refine MI.out _ _ ?_;unfold uA;exact⟨_,⟨_,_,_,_⟩,_,rfl,OG.out.BS _,⟨ew.nil _,fun _ _ _ h=>by cases h⟩,HI.out⟩
  ·skip
   clear hz Nm Mk NZ Oq;have HI:=V (show IR.get L c0.toNat ⟨1,0⟩=(⟨c0.toNat,(IR.qG L 64 ⟨1,0⟩).1,0,[]⟩,(IR.qG L 64 ⟨1,0⟩).2)by unfold IR.get;rw [HF.out];rfl);go_wp2_with fail;refine(wO w w5 R a cap L ⟨1,0⟩ HG.out.1 rfl 64 (by decide) (by decide)).mono ?_;rintro e w8 ⟨rfl,hr,hk⟩;have OG:=V (HG.out.read hr hk);obtain⟨⟨e0',e1',e2',e3'⟩,-,y1',y2',y3'⟩:=OG.out.2.1.four;clear hr hk e0 e1 e2 e3 y1 y2 y3;go_wp2_with fail;refine MI.out _ _ ?_;unfold uA;exact⟨_,⟨_,_,_,_⟩,_,rfl,OG.out.BS _,⟨ew.nil _,fun _ _ _ h=>by cases h⟩,HI.out⟩
end
section
section
variable {w:World} {X:Nat} {t:TypeId}
theorem eP.mN {k n:Int} (h:eP w X #[.int .i64 k, .int .i64 n] t):(loadVar 42 ⟨X,0,none⟩).run prog w= .ok (.agg #[.int .i64 k, .int .i64 n]) w:=by
 have hs:(prog.underlying 42).map (fun d=>match d with | .struct _ | .array _ _=>true | _=>false)=some true:=by kernel_rfl
 obtain⟨d,h1,h2⟩:=bC.1 hs;exact bZ w X t 42 _ _ d h h1 (by cases d <;>first | rfl | (exfalso;simp at h2)) (by kernel_rfl)
theorem eP.pP {b:Bool} {k n:Int} (h:eP w X #[.bool b, .int .i64 k, .int .i64 n] t):(loadVar 55 ⟨X,0,none⟩).run prog w= .ok (.agg #[.bool b, .int .i64 k, .int .i64 n]) w:=by
 have hs:(prog.underlying 55).map (fun d=>match d with | .struct _ | .array _ _=>true | _=>false)=some true:=by kernel_rfl
 obtain⟨d,h1,h2⟩:=bC.1 hs;exact bZ w X t 55 _ _ d h h1 (by cases d <;>first | rfl | (exfalso;simp at h2)) (by kernel_rfl)
theorem eP.ln {u v:Value} (h:eP w X #[u,v] t):(loadVar 109 ⟨X,0,none⟩).run prog w= .ok (.agg #[u,v]) w:=by
 have hs:(prog.underlying 109).map (fun d=>match d with | .struct _ | .array _ _=>true | _=>false)=some true:=by kernel_rfl
 obtain⟨d,h1,h2⟩:=bC.1 hs;exact bZ w X t 109 _ _ d h h1 (by cases d <;>first | rfl | (exfalso;simp at h2)) (by kernel_rfl)
theorem eP.Hx {a b:ByteArray} {n:Int} (h:eP w X #[.string a, .string b, .int .i64 n] t):(loadVar 118 ⟨X,0,none⟩).run prog w= .ok (.agg #[.string a, .string b, .int .i64 n]) w:=by
 have hs:(prog.underlying 118).map (fun d=>match d with | .struct _ | .array _ _=>true | _=>false)=some true:=by kernel_rfl
 obtain⟨d,h1,h2⟩:=bC.1 hs;exact bZ w X t 118 _ _ d h h1 (by cases d <;>first | rfl | (exfalso;simp at h2)) (by kernel_rfl)
theorem eP.FA {b:Bool} {k n:Int} (h:eP w X #[.bool b, .int .i64 k, .int .i64 n] t):(loadVar 120 ⟨X,0,none⟩).run prog w= .ok (.agg #[.bool b, .int .i64 k, .int .i64 n]) w:=by
 have hs:(prog.underlying 120).map (fun d=>match d with | .struct _ | .array _ _=>true | _=>false)=some true:=by kernel_rfl
 obtain⟨d,h1,h2⟩:=bC.1 hs;exact bZ w X t 120 _ _ d h h1 (by cases d <;>first | rfl | (exfalso;simp at h2)) (by kernel_rfl)
theorem eP.Hf {a:ByteArray} {n:Int} (h:eP w X #[.string a, .int .i64 n] t):(loadVar 111 ⟨X,0,none⟩).run prog w= .ok (.agg #[.string a, .int .i64 n]) w:=by
 have hs:(prog.underlying 111).map (fun d=>match d with | .struct _ | .array _ _=>true | _=>false)=some true:=by kernel_rfl
 obtain⟨d,h1,h2⟩:=bC.1 hs;exact bZ w X t 111 _ _ d h h1 (by cases d <;>first | rfl | (exfalso;simp at h2)) (by kernel_rfl)
theorem eP.zW {n:Int} {v:Value} (h:eP w X #[.int .i64 n,v] t):(loadVar 95 ⟨X,0,none⟩).run prog w= .ok (.agg #[.int .i64 n,v]) w:=by
 have hs:(prog.underlying 95).map (fun d=>match d with | .struct _ | .array _ _=>true | _=>false)=some true:=by kernel_rfl
 obtain⟨d,h1,h2⟩:=bC.1 hs;exact bZ w X t 95 _ _ d h h1 (by cases d <;>first | rfl | (exfalso;simp at h2)) (by kernel_rfl)
theorem eP.uj {u v:Value} (h:eP w X #[u,v] t):(loadVar 69 ⟨X,0,none⟩).run prog w= .ok (.agg #[u,v]) w:=by
 have hs:(prog.underlying 69).map (fun d=>match d with | .struct _ | .array _ _=>true | _=>false)=some true:=by kernel_rfl
 obtain⟨d,h1,h2⟩:=bC.1 hs;exact bZ w X t 69 _ _ d h h1 (by cases d <;>first | rfl | (exfalso;simp at h2)) (by kernel_rfl)
theorem eP.E4 {n:Int} {v:Value} (h:eP w X #[.int .i64 n,v] t):(loadVar 99 ⟨X,0,none⟩).run prog w= .ok (.agg #[.int .i64 n,v]) w:=by
 have hs:(prog.underlying 99).map (fun d=>match d with | .struct _ | .array _ _=>true | _=>false)=some true:=by kernel_rfl
 obtain⟨d,h1,h2⟩:=bC.1 hs;exact bZ w X t 99 _ _ d h h1 (by cases d <;>first | rfl | (exfalso;simp at h2)) (by kernel_rfl)
theorem eP.two {x0 x1:Value} (h:eP w X #[x0,x1] t):w.cell? ⟨X,0,none⟩=some x0/\w.cell? ⟨X,1,none⟩=some x1/\w.frozen? ⟨X,0,none⟩=false/\w.frozen? ⟨X,1,none⟩=false:=⟨h.cell 0,h.cell 1,h.free 0,h.free 1⟩
theorem eP.G5 {x0 x1 x2:Value} (h:eP w X #[x0,x1,x2] t):w.cell? ⟨X,0,none⟩=some x0/\w.cell? ⟨X,1,none⟩=some x1/\w.cell? ⟨X,2,none⟩=some x2/\w.frozen? ⟨X,0,none⟩=false/\w.frozen? ⟨X,1,none⟩=false/\w.frozen? ⟨X,2,none⟩=false:=⟨h.cell 0,h.cell 1,h.cell 2,h.free 0,h.free 1,h.free 2⟩
theorem eP.nx {x0 x1:Value} (h:eP w X #[x0,x1] t) (y0 y1:Value):eP ((w.setCell ⟨X,0,none⟩ y0).setCell ⟨X,1,none⟩ y1) X #[y0,y1] t:=by simpa using (h.set 0 y0).set 1 y1
theorem eP.tH {x0 x1 x2:Value} (h:eP w X #[x0,x1,x2] t) (y0 y1 y2:Value):eP (((w.setCell ⟨X,0,none⟩ y0).setCell ⟨X,1,none⟩ y1).setCell ⟨X,2,none⟩ y2) X #[y0,y1,y2] t:=by simpa using ((h.set 0 y0).set 1 y1).set 2 y2
theorem eC (w:World) (X i:Nat) (v:Value):ee (fun k=>k=X) w (w.setCell ⟨X,i,none⟩ v):=⟨rfl,rfl,rfl,by simp,fun k _ hk=>cM w ⟨X,i,none⟩ v k hk⟩
theorem fN (w:World) (X:Nat) (y0 y1:Value):ee (fun k=>k=X) w ((w.setCell ⟨X,0,none⟩ y0).setCell ⟨X,1,none⟩ y1):=(eC w X 0 y0).trans (eC _ X 1 y1) (fun _ h=> .inl h)
theorem kQ (w:World) (X:Nat) (y0 y1 y2:Value):ee (fun k=>k=X) w (((w.setCell ⟨X,0,none⟩ y0).setCell ⟨X,1,none⟩ y1).setCell ⟨X,2,none⟩ y2):=(fN w X y0 y1).trans (eC _ X 2 y2) (fun _ h=> .inl h)
theorem ee.jr {w w' w2:World} {R:Nat} (h:ee (fun k=>k=R) w w') {Y:Nat} (hk:ee (fun k=>k=Y) w' w2) (hY:w.heap.size <=Y):ee (fun k=>k=R) w w2:=h.trans hk (fun i hi=> .inr (by subst hi;exact hY))
end
end
theorem xF {x y:gf} (h:y∈oneOf x):y=x/\x.has=true:=by
 unfold oneOf at h;split at h
 ·rename_i hh
  exact⟨aQ.1 h,hh⟩
 ·simp at h
theorem pj {least fB:Int} {x:gf} (h:x.may least fB):kg (oneOf x)=x:=by
 obtain⟨has,mn,mx⟩:=x;unfold oneOf;cases has with
 | true=>rfl
 | false=>
  unfold gf.may at h;rw [aC (by simp)]at h;obtain⟨h1,h2⟩:=h;simp only at h1 h2;rw [h1,h2];rfl
theorem xu {least fB:Int} {x:gf} (h:x.may least fB) (hn:oneOf x=[]):x=⟨false,0,0⟩:=by
 rw [<- pj h,hn];rfl
theorem rm {least fB:Int} {x y:gf} (hm:x.may least fB) (hl:least <=100000) (hmo:fB <=100000) (hy:y∈oneOf x) (r:List UInt8):gy (gQ y++r)=some (y,r):=by
 obtain⟨rfl,hh⟩:=xF hy;exact AM hh hm hl hmo r
theorem yJ {least fB:Int} {x y:gf} (hm:x.may least fB) (hl:least <=100000) (hmo:fB <=100000) (hy:y∈oneOf x) (r:List UInt8):lx (jC y++r)=some (y,r):=by
 unfold lx jC;rw [bI];simp only [fk,az];exact rm hm hl hmo hy r
theorem zD {m:eI} (hm:m.Ia) (ho:m.ok) (hb:∀x∈m.eA,∀y∈x.body,y.ok) (hl:(fJ m).length <=8000):mL (fJ m)=some m:=by
 obtain⟨h1,h2,h3,h4,h5,h6,h7,h8,h9,h10⟩:=hm;have hlen:(pK m).length <=7992:=by
  simp only [fJ,ah]at hl;have:fL.length=8:=rfl;omega
 unfold mL;rw [aC (by omega)];have e0:(fJ m).take 8=fL:=by
  unfold fJ;exact cP (l₁:=fL)
 have e1:(fJ m).drop 8=pK m:=by
  unfold fJ;exact df (l₁:=fL)
 rw [aJ e0,e1];have hf:(pK m).length < (fJ m).length+1:=by
  simp only [fJ,ah];omega
 generalize(fJ m).length+1=f at hf;have hlen2:=hlen;simp only [pK,ah]at hlen2;have hstart:oc f m0 (pK m)=oc f (⟨[],[],[],⟨false,0,0⟩,⟨false,0,0⟩,[],[],[],[],[]⟩:eI) (pK m):=rfl;rw [hstart];clear hstart hlen;unfold pK at hf⊢;have v0:=jL 1 lh m.types (n:=7992) (by omega) (by omega);have l0:=me lh m.types (fun x _=>by simp [lh]);obtain⟨f0,g0,k0⟩:=kt (no:=1) (put:=lh) (get:=pg) (l:=m.types) (m:=(⟨[],[],[],⟨false,0,0⟩,⟨false,0,0⟩,[],[],[],[],[]⟩:eI)) (m':=(⟨m.types,[],[],⟨false,0,0⟩,⟨false,0,0⟩,[],[],[],[],[]⟩:eI)) (fun x=>(⟨x,[],[],⟨false,0,0⟩,⟨false,0,0⟩,[],[],[],[],[]⟩:eI)) (fun b=>rfl) (fun h=>by rw [h]) (rfl) (fun x hx r=>Dx (h1 x hx) r) (by omega) v0 _ _ hf;rw [k0];have v1:=jL 2 nQ m.imports (n:=7992) (by omega) (by omega);have l1:=me nQ m.imports (fun x _=>by have:=(eO x.mod.data.toList.length).1;simp only [nQ,pa,ah];omega);obtain⟨f1,g1,k1⟩:=kt (no:=2) (put:=nQ) (get:=uZ) (l:=m.imports) (m:=(⟨m.types,[],[],⟨false,0,0⟩,⟨false,0,0⟩,[],[],[],[],[]⟩:eI)) (m':=(⟨m.types,m.imports,[],⟨false,0,0⟩,⟨false,0,0⟩,[],[],[],[],[]⟩:eI)) (fun x=>(⟨m.types,x,[],⟨false,0,0⟩,⟨false,0,0⟩,[],[],[],[],[]⟩:eI)) (fun b=>rfl) (fun h=>by rw [h]) (rfl) (fun x hx r=>Gn (h2 x hx) r) (by omega) v1 _ _ g0;rw [k1];have v2:=jL 3 sb m.funcs (n:=7992) (by omega) (by omega);have l2:=me sb m.funcs (fun x _=>(eO x.toNat).1);obtain⟨f2,g2,k2⟩:=kt (no:=3) (put:=sb) (get:=vN) (l:=m.funcs) (m:=(⟨m.types,m.imports,[],⟨false,0,0⟩,⟨false,0,0⟩,[],[],[],[],[]⟩:eI)) (m':=(⟨m.types,m.imports,m.funcs,⟨false,0,0⟩,⟨false,0,0⟩,[],[],[],[],[]⟩:eI)) (fun x=>(⟨m.types,m.imports,x,⟨false,0,0⟩,⟨false,0,0⟩,[],[],[],[],[]⟩:eI)) (fun b=>rfl) (fun h=>by rw [h]) (rfl) (fun x hx r=>tB (h3 x hx) r) (by omega) v2 _ _ g1;rw [k2];have v3:=jL 4 jC (oneOf m.table) (n:=7992) (by omega) (by omega);have l3:=me jC (oneOf m.table) (fun x _=>by simp [jC]);obtain⟨f3,g3,k3⟩:=kt (no:=4) (put:=jC) (get:=lx) (l:=(oneOf m.table)) (m:=(⟨m.types,m.imports,m.funcs,⟨false,0,0⟩,⟨false,0,0⟩,[],[],[],[],[]⟩:eI)) (m':=(⟨m.types,m.imports,m.funcs,m.table,⟨false,0,0⟩,[],[],[],[],[]⟩:eI)) (fun x=>(⟨m.types,m.imports,m.funcs,kg x,⟨false,0,0⟩,[],[],[],[],[]⟩:eI)) (fun b=>rfl) (fun h=>by rw [xu h4 h]) (by rw [pj h4]) (fun x hx r=>yJ h4 (by decide) (by decide) hx r) (by omega) v3 _ _ g2;rw [k3];have v4:=jL 5 gQ (oneOf m.mem) (n:=7992) (by omega) (by omega);have l4:=me gQ (oneOf m.mem) (fun x _=>by unfold gQ;split <;>simp);obtain⟨f4,g4,k4⟩:=kt (no:=5) (put:=gQ) (get:=gy) (l:=(oneOf m.mem)) (m:=(⟨m.types,m.imports,m.funcs,m.table,⟨false,0,0⟩,[],[],[],[],[]⟩:eI)) (m':=(⟨m.types,m.imports,m.funcs,m.table,m.mem,[],[],[],[],[]⟩:eI)) (fun x=>(⟨m.types,m.imports,m.funcs,m.table,kg x,[],[],[],[],[]⟩:eI)) (fun b=>rfl) (fun h=>by rw [xu h5 h]) (by rw [pj h5]) (fun x hx r=>rm h5 (by decide) (by decide) hx r) (by omega) v4 _ _ g3;rw [k4];have v5:=jL 6 kV m.globals (n:=7992) (by omega) (by omega);have l5:=me kV m.globals (fun x _=>by simp [kV,jw]);obtain⟨f5,g5,k5⟩:=kt (no:=6) (put:=kV) (get:=pM) (l:=m.globals) (m:=(⟨m.types,m.imports,m.funcs,m.table,m.mem,[],[],[],[],[]⟩:eI)) (m':=(⟨m.types,m.imports,m.funcs,m.table,m.mem,m.globals,[],[],[],[]⟩:eI)) (fun x=>(⟨m.types,m.imports,m.funcs,m.table,m.mem,x,[],[],[],[]⟩:eI)) (fun b=>rfl) (fun h=>by rw [h]) (rfl) (fun x hx r=>C8 (h6 x hx) (ho.2.2.2.2.1 x hx) r) (by omega) v5 _ _ g4;rw [k5];have v6:=jL 7 oo m.ep (n:=7992) (by omega) (by omega);have l6:=me oo m.ep (fun x _=>by have:=(eO x.name.data.toList.length).1;simp only [oo,pa,ah];omega);obtain⟨f6,g6,k6⟩:=kt (no:=7) (put:=oo) (get:=um) (l:=m.ep) (m:=(⟨m.types,m.imports,m.funcs,m.table,m.mem,m.globals,[],[],[],[]⟩:eI)) (m':=(⟨m.types,m.imports,m.funcs,m.table,m.mem,m.globals,m.ep,[],[],[]⟩:eI)) (fun x=>(⟨m.types,m.imports,m.funcs,m.table,m.mem,m.globals,x,[],[],[]⟩:eI)) (fun b=>rfl) (fun h=>by rw [h]) (rfl) (fun x hx r=>E7 (h7 x hx) r) (by omega) v6 _ _ g5;rw [k6];have v7:=jL 9 kZ m.elems (n:=7992) (by omega) (by omega);have l7:=me kZ m.elems (fun x _=>by simp [kZ,nL]);obtain⟨f7,g7,k7⟩:=kt (no:=9) (put:=kZ) (get:=pk) (l:=m.elems) (m:=(⟨m.types,m.imports,m.funcs,m.table,m.mem,m.globals,m.ep,[],[],[]⟩:eI)) (m':=(⟨m.types,m.imports,m.funcs,m.table,m.mem,m.globals,m.ep,m.elems,[],[]⟩:eI)) (fun x=>(⟨m.types,m.imports,m.funcs,m.table,m.mem,m.globals,m.ep,x,[],[]⟩:eI)) (fun b=>rfl) (fun h=>by rw [h]) (rfl) (fun x hx r=>DW (h8 x hx) r) (by omega) v7 _ _ g6;rw [k7];have v8:=jL 10 iE m.eA (n:=7992) (by omega) (by omega);have l8:=me iE m.eA (fun x _=>by have:=(eO (mB x).length).1;simp only [iE,ah];omega);obtain⟨f8,g8,k8⟩:=kt (no:=10) (put:=iE) (get:=mq) (l:=m.eA) (m:=(⟨m.types,m.imports,m.funcs,m.table,m.mem,m.globals,m.ep,m.elems,[],[]⟩:eI)) (m':=(⟨m.types,m.imports,m.funcs,m.table,m.mem,m.globals,m.ep,m.elems,m.eA,[]⟩:eI)) (fun x=>(⟨m.types,m.imports,m.funcs,m.table,m.mem,m.globals,m.ep,m.elems,x,[]⟩:eI)) (fun b=>rfl) (fun h=>by rw [h]) (rfl) (fun x hx r=>DR (h9 x hx) (hb x hx) (BW hx hl) r) (by omega) v8 _ _ g7;rw [k8];have v9:=jL 11 oa m.eK (n:=7992) (by omega) (by omega);have l9:=me oa m.eK (fun x _=>by simp [oa,nL]);rw [show fM 11 oa m.eK=fM 11 oa m.eK++[]from(bO _).symm]at g8⊢;obtain⟨f9,g9,k9⟩:=kt (no:=11) (put:=oa) (get:=uz) (l:=m.eK) (m:=(⟨m.types,m.imports,m.funcs,m.table,m.mem,m.globals,m.ep,m.elems,m.eA,[]⟩:eI)) (m':=(⟨m.types,m.imports,m.funcs,m.table,m.mem,m.globals,m.ep,m.elems,m.eA,m.eK⟩:eI)) (fun x=>(⟨m.types,m.imports,m.funcs,m.table,m.mem,m.globals,m.ep,m.elems,m.eA,x⟩:eI)) (fun b=>rfl) (fun h=>by rw [h]) (rfl) (fun x hx r=>Gc (h10 x hx) r) (by omega) v9 _ _ g8;rw [k9];obtain⟨f',rfl⟩:∃f',f9=f'+1:=⟨f9 - 1,by simp at g9;omega⟩;rfl
structure lG where
 op:Int
 kind:Int
 eR:Nat
 dead:Bool
deriving DecidableEq
structure eU where
 ej:List Int
 eT:List lG
 bad:Bool
deriving DecidableEq
def eU.need (c:eU) (ok:Bool):eU:={c with bad:=c.bad || !ok}
def eU.push (c:eU) (l:List Int):eU:={c with ej:=c.ej++l}
def eU.top (c:eU):lG:=c.eT.getLast?.getD ⟨0,0,0,false⟩
def eU.pop (c:eU) (want:Int):Int × eU:=
 if c.ej.length=c.top.eR then(want,c.need c.top.dead)
 else if c.ej.getLast?.getD 0=0 then(want,{c with ej:=c.ej.dropLast})
 else(c.ej.getLast?.getD 0,({c with ej:=c.ej.dropLast}:eU).need (want==0 || c.ej.getLast?.getD 0==want))
def eU.nR (c:eU):List Int ->eU
 | []=>c
 | k::l=>(c.pop k).2.nR l
def eU.gb (c:eU) (l:List Int):eU:=c.nR l.reverse
def gF (k:Int):List Int:=if k=0 then []else [k]
def eU.begin (c:eU) (op kind:Int):eU:={c with eT:=c.eT++[⟨op,kind,c.ej.length,false⟩]}
def eU.uV (c:eU):eU:=(c.gb (gF c.top.kind)).need ((c.gb (gF c.top.kind)).ej.length==c.top.eR)
def eU.shut (c:eU):lG × eU:=(c.top,{c.uV with eT:=c.uV.eT.dropLast})
def eU.dead (c:eU):eU:={c with ej:=c.ej.take c.top.eR,eT:=c.eT.dropLast++[{c.top with dead:=true}]}
def eU.rL (c:eU) (n:Int):lG:=(c.eT[c.eT.length - 1 - n.toNat]?).getD ⟨0,0,0,false⟩
def eU.label (c:eU) (n:Int):List Int × eU:=
 if(c.eT.length:Int) <=n then([],{c with bad:=true})else(if(c.rL n).op=3 then []else gF (c.rL n).kind,c)
def typeOf (m:eI) (t:Int):gN × Bool:=if t < 0\/(m.types.length:Int) <=t then(⟨[],[]⟩,false)else((m.types[t.toNat]?).getD ⟨[],[]⟩,true)
def gM (m:eI) (f:Int):gN × Bool:=
 typeOf m (if f < m.imports.length then((m.imports[f.toNat]?).map jt.type).getD 0 else if f - m.imports.length < m.funcs.length then(m.funcs[(f - m.imports.length).toNat]?).getD 0 else -1)
def eU.calls (c:eU) (t:gN × Bool):eU:=((c.need t.2).gb t.1.params).push t.1.results
def eU.Ct (c:eU) (want:List Int):List Int ->eU
 | []=>c
 | n::l=>((c.label n).2.need (((c.label n).1.length==want.length)&&((c.label n).1.length==0 || (c.label n).1.head?==want.head?))).Ct want l
def eU.table (c:eU) (x:eS):eU:=((((c.pop 1).2.label x.a).2.Ct ((c.pop 1).2.label x.a).1 x.l).gb ((c.pop 1).2.label x.a).1).dead
def eU.control (m:eI) (c:eU) (x:eS):Option eU:=
 if x.op=0 then some c.dead
 else if x.op=1 then some c
 else if x.op=2\/x.op=3 then some (c.begin x.op x.a)
 else if x.op=4 then some ((c.pop 1).2.begin x.op x.a)
 else if x.op=5 then some (c.shut.2.begin 5 c.shut.1.kind)
 else if x.op=11 then some ((c.shut.2.need (c.shut.1.op !=4 || c.shut.1.kind==0)).push (gF c.shut.1.kind))
 else if x.op=12 then some ((c.label x.a).2.gb (c.label x.a).1).dead
 else if x.op=13 then some ((((c.pop 1).2.label x.a).2.gb ((c.pop 1).2.label x.a).1).push ((c.pop 1).2.label x.a).1)
 else if x.op=14 then some (c.table x)
 else if x.op=15 then some (c.gb (gF ((c.eT.head?.map lG.kind).getD 0))).dead
 else if x.op=16 then some (c.calls (gM m x.a))
 else if x.op=17 then some (((c.need m.table.has).pop 1).2.calls (typeOf m x.a))
 else none
def eU.local (ls:List Int) (c:eU) (n:Int):Int × eU:=if(ls.length:Int) <=n then(0,{c with bad:=true})else((ls[n.toNat]?).getD 0,c)
def eU.global (m:eI) (c:eU) (n:Int):jg × eU:=if(m.globals.length:Int) <=n then(⟨false,⟨0,0⟩⟩,{c with bad:=true})else((m.globals[n.toNat]?).getD ⟨false,⟨0,0⟩⟩,c)
def eU.access (m:eI) (c:eU) (x:eS) (align:Int) (takes makes:List Int):eU:=((c.need (m.mem.has&&decide (x.a <=align))).gb takes).push makes
def eU.plain (m:eI) (ls:List Int) (c:eU) (x:eS):eU:=
 if x.op=26 then(c.pop 0).2
 else if x.op=27 then((((c.pop 1).2.pop 0).2.pop ((c.pop 1).2.pop 0).1).2).push [(((c.pop 1).2.pop 0).2.pop ((c.pop 1).2.pop 0).1).1]
 else if x.op=32 then(c.local ls x.a).2.push [(c.local ls x.a).1]
 else if x.op=33 then((c.local ls x.a).2.pop (c.local ls x.a).1).2
 else if x.op=34 then(((c.local ls x.a).2.pop (c.local ls x.a).1).2.local ls x.a).2.push [(((c.local ls x.a).2.pop (c.local ls x.a).1).2.local ls x.a).1]
 else if x.op=35 then(c.global m x.a).2.push [(c.global m x.a).1.init.kind]
 else if x.op=36 then(((c.global m x.a).2.need (c.global m x.a).1.isVar).pop (c.global m x.a).1.init.kind).2
 else if x.op=40 then c.access m x 2 [1] [1]
 else if x.op=41 then c.access m x 3 [1] [2]
 else if x.op=44\/x.op=45 then c.access m x 0 [1] [1]
 else if x.op=54 then c.access m x 2 [1,1] []
 else if x.op=55 then c.access m x 3 [1,2] []
 else if x.op=58 then c.access m x 0 [1,1] []
 else if x.op=63 then c.access m x 0 [] [1]
 else if x.op=64 then c.access m x 0 [1] [1]
 else if x.op=65 then c.push [1]
 else if x.op=66 then c.push [2]
 else((c.need (fh x.op).2.2).gb (fh x.op).1).push [(fh x.op).2.1]
def eU.step (m:eI) (ls:List Int) (c:eU) (x:eS):eU:=(c.control m x).getD (c.plain m ls x)
def eU.run (m:eI) (ls:List Int):eU ->List eS ->Option eU
 | c,[]=>some c
 | c,x::l=>if(c.step m ls x).bad=true then none else eU.run m ls (c.step m ls x) l
def fW (m:eI) (k:Int):Bool:=
 if k < 0\/(m.eA.length:Int) <=k\/(m.funcs.length:Int) <=k then false
 else
  let code:=(m.eA[k.toNat]?).getD ⟨[],[]⟩
  let t:=typeOf m ((m.funcs[k.toNat]?).getD 0)
  if t.2=false\/(fI code.body).isSome=false then false
  else
   let ls:=t.1.params++code.locals
   match eU.run m ls (({ej:=[],eT:=[],bad:=false}:eU).begin 2 (t.1.results.head?.getD 0)) code.body with
   | none=>false
   | some c=> !c.shut.2.bad&&decide (ls.length <=32)
theorem eU.ni (c:eU) (b:Bool):(c.need b).eT=c.eT:=rfl
theorem eU.xv (c:eU) (b:Bool):(c.need b).ej=c.ej:=rfl
theorem eU.vE (c:eU) (l:List Int):(c.push l).eT=c.eT:=rfl
theorem eU.pV (c:eU) (k:Int):(c.pop k).2.eT=c.eT:=by
 unfold eU.pop;split
 ·rfl
 ·split <;>rfl
theorem eU.rG:∀(l:List Int) (c:eU),(c.nR l).eT=c.eT
 | [],c=>rfl
 | k::l,c=>by rw [eU.nR,eU.rG l,eU.pV]
theorem eU.iD (c:eU) (l:List Int):(c.gb l).eT=c.eT:=eU.rG _ _
def eU.sound (c:eU):Prop:=(∀x∈c.eT,x.eR <=c.ej.length)/\c.eT.Pairwise fun a b=>a.eR <=b.eR
theorem eU.I4 {c:eU} (h:c.eT≠[]):c.top∈c.eT:=by
 unfold eU.top;rw [List.getLast?_eq_some_getLast h];exact List.getLast_mem h
theorem eU.sound.top {c:eU} (h:c.sound) (hn:c.eT≠[]):c.top.eR <=c.ej.length:=h.1 _ (eU.I4 hn)
theorem eU.sound.le_top {c:eU} (h:c.sound) (hn:c.eT≠[]):∀x∈c.eT,x.eR <=c.top.eR:=by
 intro x hx;obtain⟨l,t,hl⟩:∃l t,c.eT=l++[t]:=⟨c.eT.dropLast,c.eT.getLast hn,(cS hn).symm⟩;have ht:c.top=t:=by
  unfold eU.top;rw [hl];simp
 rw [ht];rw [hl]at hx;have hp:=h.2;rw [hl,cG]at hp;rcases aZ.1 hx with h1 | h1
 ·exact hp.2.2 x h1 t (by simp)
 ·rw [aQ.1 h1]
  exact ag _
theorem eU.sound.pop {c:eU} (h:c.sound) (hn:c.eT≠[]) (k:Int):(c.pop k).2.sound:=by
 have ht:=h.top hn;have hle:=h.le_top hn;unfold eU.pop;split
 ·exact h
 ·rename_i Nm
  have key:(({c with ej:=c.ej.dropLast}:eU)).sound:=⟨fun x hx=>by
   have:=hle x hx;simp only [cR];omega,h.2⟩
  split
  ·exact key
  ·exact key
theorem eU.sound.nR:∀(l:List Int) {c:eU},c.sound ->c.eT≠[] ->(c.nR l).sound
 | [],_,h,_=>h
 | k::l,c,h,hn=>eU.sound.nR l (h.pop hn k) (by rw [eU.pV];exact hn)
theorem eU.sound.gb {c:eU} (h:c.sound) (hn:c.eT≠[]) (l:List Int):(c.gb l).sound:=eU.sound.nR _ h hn
theorem eU.sound.push {c:eU} (h:c.sound) (l:List Int):(c.push l).sound:=⟨fun x hx=>by
 have:=h.1 x hx;simp only [eU.push,ah];omega,h.2⟩
theorem eU.sound.begin {c:eU} (h:c.sound) (op kind:Int):(c.begin op kind).sound:=by
 refine⟨fun x hx=>?_,?_⟩
 ·rcases aZ.1 hx with h1 | h1
  ·exact h.1 x h1
  ·rw [aQ.1 h1]
   exact ag _
 ·show(c.eT++[_]).Pairwise _
  rw [cG];exact⟨h.2,by simp,fun a ha b hb=>by rw [aQ.1 hb];exact h.1 a ha⟩
def eI.lists (m:eI):Prop:=
 ((m.types.length <=16/\∀x∈m.types,x.may)/\(m.imports.length <=16/\∀x∈m.imports,x.may)/\((m.funcs.length:Int) <=16 - m.imports.length/\∀n∈m.funcs,gp n))/\
 (m.globals.length <=16/\∀x∈m.globals,x.init.may)/\(m.ep.length <=16/\∀x∈m.ep,x.may)/\(m.elems.length <=16/\∀x∈m.elems,x.may)/\(m.eK.length <=16/\∀x∈m.eK,x.may)
def eI.tp (m:eI):Prop:=m.eA.length=m.funcs.length/\m.eA.length <=16/\∀x∈m.eA,x.may
def eI.wu (m:eI):Prop:=m.tp/\m.lists/\m.table.may 16 1000/\m.mem.may 16 65536
def eI.may (m:eI):Prop:=m.wu/\(fJ m).length <=8000
instance (t:gN):Decidable t.may:=by unfold gN.may;infer_instance
instance (x:jt):Decidable x.may:=by unfold jt.may;infer_instance
instance (x:iO):Decidable x.may:=by unfold iO.may;infer_instance
instance (x:jb):Decidable x.may:=by unfold jb.may;infer_instance
instance (x:gD):Decidable x.may:=by unfold gD.may;infer_instance
instance (x:gS):Decidable x.may:=by unfold gS.may;infer_instance
instance (m:eI):Decidable m.lists:=by unfold eI.lists;infer_instance
instance (m:eI):Decidable m.tp:=by unfold eI.tp;infer_instance
instance (m:eI):Decidable m.wu:=by unfold eI.wu;infer_instance
instance (m:eI):Decidable m.may:=by unfold eI.may;infer_instance
theorem eI.wu.Ia {m:eI} (h:m.wu):m.Ia:=by
 obtain⟨⟨_,_,h9⟩,⟨⟨⟨_,h1⟩,⟨_,h2⟩,_,h3⟩,⟨_,h6⟩,⟨_,h7⟩,⟨_,h8⟩,_,h10⟩,h4,h5⟩:=h;exact⟨h1,h2,h3,h4,h5,h6,h7,h8,h9,h10⟩
theorem CR {α:Type} (put:α ->List UInt8) (k:Nat):∀l:List α,(∀x∈l,(put x).length <=k) ->((l.map put).flatten).length <=k*l.length
 | [],_=>by simp
 | x::l,h=>by
  have h1:=h x (by simp);have h2:=CR put k l (fun y hy=>h y (by simp [hy]));simp only [bG,bT,ah,aF];rw [Nat.mul_add];omega
theorem jN {α:Type} (put:α ->List UInt8) (k n:Nat) (l:List α) (h:∀x∈l,(put x).length <=k) (hl:l.length <=n):(ff put l).length <=10+k*n:=by
 have h1:=CR put k l h;have h2:=(eO l.length).2;have h3:k*l.length <=k*n:=dQ _ hl;simp only [ff,ah];omega
theorem nM {α:Type} (no:UInt8) (put:α ->List UInt8) (k n:Nat) (l:List α) (h:∀x∈l,(put x).length <=k) (hl:l.length <=n):(fM no put l).length <=21+k*n:=by
 cases l with
 | nil=>simp [fM]
 | cons x l=>
  have h1:=jN put k n _ h hl;have h2:=(eO (ff put (x::l)).length).2;simp only [fM,aF,ah]at h1 h2⊢;omega
theorem FB {t:gN} (h:t.may):(lh t).length <=100:=by
 obtain⟨⟨h1,_⟩,h2,_⟩:=h;have a:=jN jw 1 32 t.params (fun x _=>by simp [jw]) h1;have b:=jN jw 1 1 t.results (fun x _=>by simp [jw]) h2;simp only [lh,aF,ah];omega
theorem sv (n:Int):(sb n).length <=10:=(eO n.toNat).2
theorem om {s:ByteArray} (h:kk s):(pa s).length <=26:=by
 have a:=(eO s.data.toList.length).2;have:=h.2.1;simp only [pa,ah];omega
theorem Hl {x:jt} (h:x.may):(nQ x).length <=100:=by
 have a:=om h.1;have b:=om h.2.1;have c:=sv x.type;simp only [nQ,aF,ah];omega
theorem qy (x:gf):(gQ x).length <=30:=by
 have a:=(eO x.min.toNat).2;have b:=(eO x.max.toNat).2;unfold gQ;split
 ·simp only [aF];omega
 ·simp only [aF,ah];omega
theorem wP (x:gf):(jC x).length <=31:=by
 have:=qy x;simp only [jC,aF];omega
theorem AI (n:Int) (h:iP n) (op:Int) (ho:op=65\/op=66):(iC ⟨op,n,0,[]⟩).length <=11:=by
 have s:=(tF h.1 h.2).2;rcases ho with rfl | rfl
 ·have:gz ⟨65,n,0,[]⟩=iy n:=rfl
  rw [iC,this,aF];omega
 ·have:gz ⟨66,n,0,[]⟩=iy n:=rfl
  rw [iC,this,aF];omega
theorem rT {v:fm} (h:v.ok):(mw v).length <=12:=by
 have:=AI v.n h.2 (if v.kind=2 then 66 else 65) (by split <;>simp);simp only [mw,ah,aB];omega
theorem F5 {x:jg} (h:x.init.ok):(kV x).length <=14:=by
 have:=rT h;simp only [kV,jw,ah,aF,aL];omega
theorem Ix {x:iO} (h:x.may):(oo x).length <=100:=by
 have a:=om h.1;have c:=sv x.func;simp only [oo,aF,ah];omega
theorem pS {n:Int} (h:mC n):(nL n).length <=13:=by
 have:=rT (v:=⟨1,n⟩) ⟨⟨by show(-9223372036854775808:Int) <=1;decide,by show(1:Int) <=9223372036854775807;decide⟩,by have:=h.1;show(-9223372036854775808:Int) <=n;omega,by have:=h.2;show n <=(9223372036854775807:Int);omega⟩;simp only [nL,aF];omega
theorem GN {x:jb} (h:x.may):(kZ x).length <=600:=by
 have a:=pS h.1;have b:=jN sb 10 50 x.funcs (fun y _=>sv y) h.2.1;simp only [kZ,ah];omega
theorem IK {x:gD} (h:x.may):(oa x).length <=1100:=by
 have a:=pS h.1;have b:=(eO x.bytes.length).2;have:=h.2;simp only [oa,ah];omega
theorem Ha (x:Nat × Int):(xK x).length <=11:=by
 have:=(eO x.1).2;simp only [xK,jw,ah,aF,aL];omega
theorem vC {l:List Int} (h:l.length <=32):(kD l).length <=400:=by
 have h1:=px l;have:=jN xK 11 32 (gL l) (fun x _=>Ha x) (by omega);simp only [kD];omega
def lp (x:gf):Bool:=x.has&&(decide (0 <=x.max)&&decide (x.max < x.min))
def eI.JG (m:eI):Int:=m.imports.length+m.funcs.length
def ma (m:eI) (t:Int):Bool:=decide ((m.types.length:Int) <=t)
def mb (m:eI) (f:Int):Bool:=decide (m.JG <=f)
def xO (m:eI) (pre:List iO) (x:iO):Bool:=mb m x.func || pre.any fun y=>x.name.toList==y.name.toList
def mI (m:eI):List iO ->List iO ->Bool
 | _,[]=>false
 | pre,x::l=>xO m pre x || mI m (pre++[x]) l
def xW (m:eI):Bool:=mI m [] m.ep
def Az (m:eI):Bool:=m.elems.any fun x=>x.funcs.any fun f=>mb m f
def jG (m:eI):Nat ->Bool
 | 0=>true
 | k+1=>jG m k&&fW m k
def iM (m:eI):Int:=
 if decide m.may=false then 0
 else if(m.imports.any fun x=>ma m x.type)=true then 2
 else if(m.funcs.any fun t=>ma m t)=true then 3
 else if lp m.table=true then 4
 else if lp m.mem=true then 5
 else if xW m=true then 7
 else if m.elems.length≠0/\m.table.has=false then 9
 else if Az m=true then 9
 else if jG m m.eA.length=false then 10
 else if m.eK.length≠0/\m.mem.has=false then 11
 else -1
theorem rM (m:eI) (x:iO):∀(l pre:List iO),mI m pre (l++[x])=(mI m pre l || xO m (pre++l) x)
 | [],pre=>by simp [mI]
 | y::l,pre=>by
  simp only [bI,mI,rM m x l (pre++[y]),aP,Bool.or_assoc,bL]
theorem fg {α:Type} {k:Nat} {enc:α ->List Value} {w:World} {v:Value} {l:List α} (h:ew k enc w v l):∃a cap,v= .slice a l.length cap/\l.length <=cap/\cap <=9223372036854775807:=by
 obtain⟨a,cap,hv,h1,h2,_⟩:=h;exact⟨a,cap,hv,h1,h2⟩
theorem wo {w:World} {v:Value} {l:List UInt8} (h:eW w v l):∃a cap,v= .slice a l.length cap/\l.length <=cap/\cap <=9223372036854775807:=by
 obtain⟨a,cap,hv,h1,h2,_⟩:=h;exact⟨a,cap,hv,h1,h2⟩
theorem boxed {w w':World} {F:Value} {t:TypeId} (h:Below (w.alloc (.cells #[F] t)).heap.size (w.alloc (.cells #[F] t)) w'):w'.cell? ⟨w.heap.size,0,none⟩=some F/\Below w.heap.size w w':=
 ⟨by rw [h.cell (by simp),bQ];rfl,((an _ _).alloc (ag _) _).trans (h.mono (by simp))⟩
theorem DV (p:Int ->Bool) (v:Value) (l:List Int) (w:World) (hl:ew 1 fp w v l) (Lq:Nat) (cs:Array Value)
  (hE:∀args w,(callFunc Lq args).run prog w= .ok (.enter Lq args) w)
  (hp:∀e∈l,∀w',Below w.heap.size w w' ->Calls prog Lq (#[.int .i64 e]++cs) w' (eF (p e) w')):
  Calls prog 100 #[v, .func (.func Lq) #[] cs] w (kj p l w):=by
 have HP:=V hp;have HI:=V hl;obtain⟨a,cap,rfl,h1,h2,_⟩:=id hl;unfold maxLen at h2;clear hl hp;go_enter func100,ntmps100;go_wp2_with fail;refine eJ (fun a' w'=>∃(k:Nat),a'=fr (.slice a l.length cap:: .func (.func Lq) #[] cs::gs a' 2 5 (.int .i64 l.length:: .int .i64 k::gs a' 9 10 []))/\qc p l w w' k) (fun a' _=>(l.length - (intOf (a'.tmps.getD 8 undef)).toNat)) ?_ ?_
 ·exact⟨0,rfl,by omega,fun i hi=>by omega,an _ _⟩
 ·skip
  rintro R a' w1 ⟨k,Lp,hJ⟩ HR;dsimp only [fr,gs]at Lp;generalize slot a'=f at Lp;subst Lp;obtain⟨hk,hm,hb⟩:=hJ;have Mt:=V hm;clear hm;by_cases Mm:k < l.length;rotate_left
  ·obtain rfl:k=l.length:=by omega
   go_wp2_with fail;go_ret;exact⟨by rw [hI Mt.out];rfl,hb⟩
  obtain⟨e,he⟩:∃e,l[k]?=some e:=⟨_,aw Mm⟩;obtain⟨a',LO,hv,_,_,Ln⟩:=HI.out.below (hb.mono (ag _));injection hv with e1 e2 e3;subst e1 e3;obtain⟨b,off,rfl,Lw,hc⟩:=Ln k e he;have c0:=hc 0 _ rfl;rw [aK,bq]at c0;have Lz:=HP.out e (aO he) w1 hb;have HE:=V he;clear Ln e2 he hc;cases hq:p e
  all_goals
   rw [hq]at Lz;have HQ:=V hq;clear hq;go_wp2_with fail;refine Lz.mono ?_;rintro x w2 ⟨rfl,Lr⟩;replace hb:=ei hb Lr;clear Lz Lr c0;go_wp2_with fail
  ·refine HR.out _ _ ⟨k+1,rfl,by omega,?_,hb⟩ ?_
   ·intro i hi d hd
    rcases bD i k with h | h
    ·exact Mt.out i h d hd
    ·obtain rfl:i=k:=by omega
     rw [HE.out]at hd;injection hd with hd;rw [<- hd];exact HQ.out
   ·simp [intOf]
    omega
  ·go_ret
   exact⟨by rw [iA HE.out HQ.out Mt.out];rfl,hb⟩
theorem qW (p:Int ->Bool) (v:Value) (l:List Int) (w:World) (hl:ew 1 fp w v l) (Lq:Nat) (cs:Array Value)
  (hE:∀args w,(callFunc Lq args).run prog w= .ok (.enter Lq args) w)
  (hp:∀e∈l,∀w',Below w.heap.size w w' ->Calls prog Lq (#[.int .i64 e]++cs) w' (eF (p e) w')):
  Calls prog 63 #[v, .func (.func Lq) #[] cs] w (eF (l.any p) w):=by
 go_enter func63,ntmps63;go_wp2_with fail;refine(DV p v l _ hl Lq cs hE hp).mono ?_;rintro x w2 ⟨rfl,hb⟩;clear hE;go_wp2_with fail;go_ret;exact⟨by rw [<- iK];rfl,hb⟩
theorem BL (b:Bool) (n:Int) (Lq:Nat) (cs:Array Value) (X:Nat) (w:World)
  (hE:∀args w,(callFunc Lq args).run prog w= .ok (.enter Lq args) w) (hX:w.cell? ⟨X,0,none⟩=some (.func (.func Lq) #[] cs))
  (hp:∀w',Below w.heap.size w w' ->Calls prog Lq (#[.int .i64 n]++cs) w' (eF b w')):
  Calls prog 147 #[.int .i64 n, .pointer (some ⟨X,0,none⟩)] w (eF (!b) w):=by
 have Lw:=aT w _ hX;have HP:=V hp;clear hp;go_enter func147,ntmps147;go_wp2_with fail;refine(HP.out _ (an _ _)).mono ?_;rintro x w2 ⟨rfl,hb⟩;clear hE hX;go_wp2_with fail;go_ret;exact⟨rfl,hb⟩
theorem uH (p:Int ->Bool) (v:Value) (l:List Int) (w:World) (hl:ew 1 fp w v l) (Lq:Nat) (fB:Int)
  (hE:∀args w,(callFunc Lq args).run prog w= .ok (.enter Lq args) w)
  (hp:∀e∈l,∀w',Below w.heap.size w w' ->Calls prog Lq #[.int .i64 e] w' (eF (p e) w')):
  Calls prog 92 #[v, .int .i64 fB, .func (.func Lq) #[] #[]] w (eF (decide ((l.length:Int) <=fB)&&l.all p) w):=by
 have HP:=V hp;obtain⟨a,cap,rfl,h1,h2⟩:∃a cap,v= .slice a l.length cap/\l.length <=cap/\cap <=9223372036854775807:=fg hl;have HL:=V hl;clear hp hl;by_cases q:(l.length:Int) <=fB
 ·have f:decide ((l.length:Int) <=fB)=true:=aA q
  go_enter func92,ntmps92;go_wp2_with fail;refine bU (qW (fun e=> !p e) _ l _ (HL.out.below ((an _ _).alloc (ag _) _)) 147 #[.pointer (some ⟨w.heap.size,0,none⟩)] (fun args w=>by rfl) ?_) ?_
  ·intro e he w' hw'
   obtain⟨hX,hw⟩:=boxed hw';exact BL (p e) _ Lq #[] _ w' hE hX (fun w2 h2=>by simpa using HP.out e he w2 (hw.trans (h2.mono hw.size)))
  rintro x w2 ⟨rfl,hb⟩;clear hE;have HF:=V f;clear f;have f:decide ((l.length:Int) <=fB)=true:=HF.out;go_wp2_with fail;go_ret;refine⟨?_,((an _ _).alloc (ag _) _).trans (hb.mono (by simp))⟩;have e1:l.all p= !(l.any fun e=> !p e):=by rw [bV];simp
  rw [f,e1,ct];rfl
 ·have f:decide ((l.length:Int) <=fB)=false:=aq q
  go_enter func92,ntmps92;go_wp2_with fail;go_ret;exact⟨by first | rfl | (rw [f];rfl),(an _ _).alloc (ag _) _⟩
theorem Ip (p:jt ->Bool) (v:Value) (l:List jt) (w:World) (hl:ew 3 tf w v l) (Lq:Nat) (cs:Array Value)
  (hE:∀args w,(callFunc Lq args).run prog w= .ok (.enter Lq args) w)
  (hp:∀e∈l,∀w',Below w.heap.size w w' ->Calls prog Lq (#[.agg #[.string e.mod, .string e.name, .int .i64 e.type]]++cs) w' (eF (p e) w')):
  Calls prog 99 #[v, .func (.func Lq) #[] cs] w (kj p l w):=by
 have HP:=V hp;have HI:=V hl;obtain⟨a,cap,rfl,h1,h2,_⟩:=id hl;unfold maxLen at h2;clear hl hp;go_enter func99,ntmps99;go_wp2_with fail;refine eJ (fun a' w'=>∃(k:Nat),a'=fr (.slice a l.length cap:: .func (.func Lq) #[] cs::gs a' 2 5 (.int .i64 l.length:: .int .i64 k::gs a' 9 10 []))/\qc p l w w' k) (fun a' _=>(l.length - (intOf (a'.tmps.getD 8 undef)).toNat)) ?_ ?_
 ·exact⟨0,rfl,by omega,fun i hi=>by omega,an _ _⟩
 ·skip
  rintro R a' w1 ⟨k,Lp,hJ⟩ HR;dsimp only [fr,gs]at Lp;generalize slot a'=f at Lp;subst Lp;obtain⟨hk,hm,hb⟩:=hJ;have Mt:=V hm;clear hm;by_cases Mm:k < l.length;rotate_left
  ·obtain rfl:k=l.length:=by omega
   go_wp2_with fail;go_ret;exact⟨by rw [hI Mt.out];rfl,hb⟩
  obtain⟨e,he⟩:∃e,l[k]?=some e:=⟨_,aw Mm⟩;obtain⟨a',LO,hv,_,_,Ln⟩:=HI.out.below (hb.mono (ag _));injection hv with e1 e2 e3;subst e1 e3;obtain⟨b,off,rfl,Lw,hc⟩:=Ln k e he;have c0:=hc 0 _ rfl;have c1:=hc 1 _ rfl;have c2:=hc 2 _ rfl;rw [aK]at c0;have Lz:=HP.out e (aO he) w1 hb;have HE:=V he;clear Ln e2 he hc;cases hq:p e
  all_goals
   rw [hq]at Lz;have HQ:=V hq;clear hq;go_wp2_with fail;refine Lz.mono ?_;rintro x w2 ⟨rfl,Lr⟩;replace hb:=ei hb Lr;clear Lz Lr c0 c1 c2;go_wp2_with fail
  ·refine HR.out _ _ ⟨k+1,rfl,by omega,?_,hb⟩ ?_
   ·intro i hi d hd
    rcases bD i k with h | h
    ·exact Mt.out i h d hd
    ·obtain rfl:i=k:=by omega
     rw [HE.out]at hd;injection hd with hd;rw [<- hd];exact HQ.out
   ·simp [intOf]
    omega
  ·go_ret
   exact⟨by rw [iA HE.out HQ.out Mt.out];rfl,hb⟩
theorem Ak (p:jt ->Bool) (v:Value) (l:List jt) (w:World) (hl:ew 3 tf w v l) (Lq:Nat) (cs:Array Value)
  (hE:∀args w,(callFunc Lq args).run prog w= .ok (.enter Lq args) w)
  (hp:∀e∈l,∀w',Below w.heap.size w w' ->Calls prog Lq (#[.agg #[.string e.mod, .string e.name, .int .i64 e.type]]++cs) w' (eF (p e) w')):
  Calls prog 61 #[v, .func (.func Lq) #[] cs] w (eF (l.any p) w):=by
 go_enter func61,ntmps61;go_wp2_with fail;refine(Ip p v l _ hl Lq cs hE hp).mono ?_;rintro x w2 ⟨rfl,hb⟩;clear hE;go_wp2_with fail;go_ret;exact⟨by rw [<- iK];rfl,hb⟩
theorem EE (b:Bool) (s1 s2:ByteArray) (n:Int) (Lq:Nat) (cs:Array Value) (X:Nat) (w:World)
  (hE:∀args w,(callFunc Lq args).run prog w= .ok (.enter Lq args) w) (hX:w.cell? ⟨X,0,none⟩=some (.func (.func Lq) #[] cs))
  (hp:∀w',Below w.heap.size w w' ->Calls prog Lq (#[.agg #[.string s1, .string s2, .int .i64 n]]++cs) w' (eF b w')):
  Calls prog 247 #[.agg #[.string s1, .string s2, .int .i64 n], .pointer (some ⟨X,0,none⟩)] w (eF (!b) w):=by
 have Lw:=aT w _ hX;have HP:=V hp;clear hp;go_enter func247,ntmps247;go_wp2_with fail;refine(HP.out _ ((an _ _).alloc (ag _) _)).mono ?_;rintro x w2 ⟨rfl,hb⟩;clear hE hX;go_wp2_with fail;go_ret;exact⟨rfl,((an _ _).alloc (ag _) _).trans (hb.mono (by simp))⟩
theorem FZ (p:jt ->Bool) (v:Value) (l:List jt) (w:World) (hl:ew 3 tf w v l) (Lq:Nat) (fB:Int)
  (hE:∀args w,(callFunc Lq args).run prog w= .ok (.enter Lq args) w)
  (hp:∀e∈l,∀w',Below w.heap.size w w' ->Calls prog Lq #[.agg #[.string e.mod, .string e.name, .int .i64 e.type]] w' (eF (p e) w')):
  Calls prog 156 #[v, .int .i64 fB, .func (.func Lq) #[] #[]] w (eF (decide ((l.length:Int) <=fB)&&l.all p) w):=by
 have HP:=V hp;obtain⟨a,cap,rfl,h1,h2⟩:∃a cap,v= .slice a l.length cap/\l.length <=cap/\cap <=9223372036854775807:=fg hl;have HL:=V hl;clear hp hl;by_cases q:(l.length:Int) <=fB
 ·have f:decide ((l.length:Int) <=fB)=true:=aA q
  go_enter func156,ntmps156;go_wp2_with fail;refine bU (Ak (fun e=> !p e) _ l _ (HL.out.below ((an _ _).alloc (ag _) _)) 247 #[.pointer (some ⟨w.heap.size,0,none⟩)] (fun args w=>by rfl) ?_) ?_
  ·intro e he w' hw'
   obtain⟨hX,hw⟩:=boxed hw';exact EE (p e) _ _ _ Lq #[] _ w' hE hX (fun w2 h2=>by simpa using HP.out e he w2 (hw.trans (h2.mono hw.size)))
  rintro x w2 ⟨rfl,hb⟩;clear hE;have HF:=V f;clear f;have f:decide ((l.length:Int) <=fB)=true:=HF.out;go_wp2_with fail;go_ret;refine⟨?_,((an _ _).alloc (ag _) _).trans (hb.mono (by simp))⟩;have e1:l.all p= !(l.any fun e=> !p e):=by rw [bV];simp
  rw [f,e1,ct];rfl
 ·have f:decide ((l.length:Int) <=fB)=false:=aq q
  go_enter func156,ntmps156;go_wp2_with fail;go_ret;exact⟨by first | rfl | (rw [f];rfl),(an _ _).alloc (ag _) _⟩
theorem Ij (p:jg ->Bool) (v:Value) (l:List jg) (w:World) (hl:ew 3 td w v l) (Lq:Nat) (cs:Array Value)
  (hE:∀args w,(callFunc Lq args).run prog w= .ok (.enter Lq args) w)
  (hp:∀e∈l,∀w',Below w.heap.size w w' ->Calls prog Lq (#[.agg #[.bool e.isVar, .int .i64 e.init.kind, .int .i64 e.init.n]]++cs) w' (eF (p e) w')):
  Calls prog 287 #[v, .func (.func Lq) #[] cs] w (kj p l w):=by
 have HP:=V hp;have HI:=V hl;obtain⟨a,cap,rfl,h1,h2,_⟩:=id hl;unfold maxLen at h2;clear hl hp;go_enter func287,ntmps287;go_wp2_with fail;refine eJ (fun a' w'=>∃(k:Nat),a'=fr (.slice a l.length cap:: .func (.func Lq) #[] cs::gs a' 2 5 (.int .i64 l.length:: .int .i64 k::gs a' 9 10 []))/\qc p l w w' k) (fun a' _=>(l.length - (intOf (a'.tmps.getD 8 undef)).toNat)) ?_ ?_
 ·exact⟨0,rfl,by omega,fun i hi=>by omega,an _ _⟩
 ·skip
  rintro R a' w1 ⟨k,Lp,hJ⟩ HR;dsimp only [fr,gs]at Lp;generalize slot a'=f at Lp;subst Lp;obtain⟨hk,hm,hb⟩:=hJ;have Mt:=V hm;clear hm;by_cases Mm:k < l.length;rotate_left
  ·obtain rfl:k=l.length:=by omega
   go_wp2_with fail;go_ret;exact⟨by rw [hI Mt.out];rfl,hb⟩
  obtain⟨e,he⟩:∃e,l[k]?=some e:=⟨_,aw Mm⟩;obtain⟨a',LO,hv,_,_,Ln⟩:=HI.out.below (hb.mono (ag _));injection hv with e1 e2 e3;subst e1 e3;obtain⟨b,off,rfl,Lw,hc⟩:=Ln k e he;have c0:=hc 0 _ rfl;have c1:=hc 1 _ rfl;have c2:=hc 2 _ rfl;rw [aK]at c0;have Lz:=HP.out e (aO he) w1 hb;have HE:=V he;clear Ln e2 he hc;cases hq:p e
  all_goals
   rw [hq]at Lz;have HQ:=V hq;clear hq;go_wp2_with fail;refine Lz.mono ?_;rintro x w2 ⟨rfl,Lr⟩;replace hb:=ei hb Lr;clear Lz Lr c0 c1 c2;go_wp2_with fail
  ·refine HR.out _ _ ⟨k+1,rfl,by omega,?_,hb⟩ ?_
   ·intro i hi d hd
    rcases bD i k with h | h
    ·exact Mt.out i h d hd
    ·obtain rfl:i=k:=by omega
     rw [HE.out]at hd;injection hd with hd;rw [<- hd];exact HQ.out
   ·simp [intOf]
    omega
  ·go_ret
   exact⟨by rw [iA HE.out HQ.out Mt.out];rfl,hb⟩
theorem GF (p:jg ->Bool) (v:Value) (l:List jg) (w:World) (hl:ew 3 td w v l) (Lq:Nat) (cs:Array Value)
  (hE:∀args w,(callFunc Lq args).run prog w= .ok (.enter Lq args) w)
  (hp:∀e∈l,∀w',Below w.heap.size w w' ->Calls prog Lq (#[.agg #[.bool e.isVar, .int .i64 e.init.kind, .int .i64 e.init.n]]++cs) w' (eF (p e) w')):
  Calls prog 250 #[v, .func (.func Lq) #[] cs] w (eF (l.any p) w):=by
 go_enter func250,ntmps250;go_wp2_with fail;refine(Ij p v l _ hl Lq cs hE hp).mono ?_;rintro x w2 ⟨rfl,hb⟩;clear hE;go_wp2_with fail;go_ret;exact⟨by rw [<- iK];rfl,hb⟩
theorem F2 (b:Bool) (bb:Bool) (n1 n2:Int) (Lq:Nat) (cs:Array Value) (X:Nat) (w:World)
  (hE:∀args w,(callFunc Lq args).run prog w= .ok (.enter Lq args) w) (hX:w.cell? ⟨X,0,none⟩=some (.func (.func Lq) #[] cs))
  (hp:∀w',Below w.heap.size w w' ->Calls prog Lq (#[.agg #[.bool bb, .int .i64 n1, .int .i64 n2]]++cs) w' (eF b w')):
  Calls prog 251 #[.agg #[.bool bb, .int .i64 n1, .int .i64 n2], .pointer (some ⟨X,0,none⟩)] w (eF (!b) w):=by
 have Lw:=aT w _ hX;have HP:=V hp;clear hp;go_enter func251,ntmps251;go_wp2_with fail;refine(HP.out _ ((an _ _).alloc (ag _) _)).mono ?_;rintro x w2 ⟨rfl,hb⟩;clear hE hX;go_wp2_with fail;go_ret;exact⟨rfl,((an _ _).alloc (ag _) _).trans (hb.mono (by simp))⟩
theorem Gr (p:jg ->Bool) (v:Value) (l:List jg) (w:World) (hl:ew 3 td w v l) (Lq:Nat) (fB:Int)
  (hE:∀args w,(callFunc Lq args).run prog w= .ok (.enter Lq args) w)
  (hp:∀e∈l,∀w',Below w.heap.size w w' ->Calls prog Lq #[.agg #[.bool e.isVar, .int .i64 e.init.kind, .int .i64 e.init.n]] w' (eF (p e) w')):
  Calls prog 160 #[v, .int .i64 fB, .func (.func Lq) #[] #[]] w (eF (decide ((l.length:Int) <=fB)&&l.all p) w):=by
 have HP:=V hp;obtain⟨a,cap,rfl,h1,h2⟩:∃a cap,v= .slice a l.length cap/\l.length <=cap/\cap <=9223372036854775807:=fg hl;have HL:=V hl;clear hp hl;by_cases q:(l.length:Int) <=fB
 ·have f:decide ((l.length:Int) <=fB)=true:=aA q
  go_enter func160,ntmps160;go_wp2_with fail;refine bU (GF (fun e=> !p e) _ l _ (HL.out.below ((an _ _).alloc (ag _) _)) 251 #[.pointer (some ⟨w.heap.size,0,none⟩)] (fun args w=>by rfl) ?_) ?_
  ·intro e he w' hw'
   obtain⟨hX,hw⟩:=boxed hw';exact F2 (p e) _ _ _ Lq #[] _ w' hE hX (fun w2 h2=>by simpa using HP.out e he w2 (hw.trans (h2.mono hw.size)))
  rintro x w2 ⟨rfl,hb⟩;clear hE;have HF:=V f;clear f;have f:decide ((l.length:Int) <=fB)=true:=HF.out;go_wp2_with fail;go_ret;refine⟨?_,((an _ _).alloc (ag _) _).trans (hb.mono (by simp))⟩;have e1:l.all p= !(l.any fun e=> !p e):=by rw [bV];simp
  rw [f,e1,ct];rfl
 ·have f:decide ((l.length:Int) <=fB)=false:=aq q
  go_enter func160,ntmps160;go_wp2_with fail;go_ret;exact⟨by first | rfl | (rw [f];rfl),(an _ _).alloc (ag _) _⟩
theorem IG (p:iO ->Bool) (v:Value) (l:List iO) (w:World) (hl:ew 2 rz w v l) (Lq:Nat) (cs:Array Value)
  (hE:∀args w,(callFunc Lq args).run prog w= .ok (.enter Lq args) w)
  (hp:∀e∈l,∀w',Below w.heap.size w w' ->Calls prog Lq (#[.agg #[.string e.name, .int .i64 e.func]]++cs) w' (eF (p e) w')):
  Calls prog 89 #[v, .func (.func Lq) #[] cs] w (kj p l w):=by
 have HP:=V hp;have HI:=V hl;obtain⟨a,cap,rfl,h1,h2,_⟩:=id hl;unfold maxLen at h2;clear hl hp;go_enter func89,ntmps89;go_wp2_with fail;refine eJ (fun a' w'=>∃(k:Nat),a'=fr (.slice a l.length cap:: .func (.func Lq) #[] cs::gs a' 2 5 (.int .i64 l.length:: .int .i64 k::gs a' 9 10 []))/\qc p l w w' k) (fun a' _=>(l.length - (intOf (a'.tmps.getD 8 undef)).toNat)) ?_ ?_
 ·exact⟨0,rfl,by omega,fun i hi=>by omega,an _ _⟩
 ·skip
  rintro R a' w1 ⟨k,Lp,hJ⟩ HR;dsimp only [fr,gs]at Lp;generalize slot a'=f at Lp;subst Lp;obtain⟨hk,hm,hb⟩:=hJ;have Mt:=V hm;clear hm;by_cases Mm:k < l.length;rotate_left
  ·obtain rfl:k=l.length:=by omega
   go_wp2_with fail;go_ret;exact⟨by rw [hI Mt.out];rfl,hb⟩
  obtain⟨e,he⟩:∃e,l[k]?=some e:=⟨_,aw Mm⟩;obtain⟨a',LO,hv,_,_,Ln⟩:=HI.out.below (hb.mono (ag _));injection hv with e1 e2 e3;subst e1 e3;obtain⟨b,off,rfl,Lw,hc⟩:=Ln k e he;have c0:=hc 0 _ rfl;have c1:=hc 1 _ rfl;rw [aK]at c0;have Lz:=HP.out e (aO he) w1 hb;have HE:=V he;clear Ln e2 he hc;cases hq:p e
  all_goals
   rw [hq]at Lz;have HQ:=V hq;clear hq;go_wp2_with fail;refine Lz.mono ?_;rintro x w2 ⟨rfl,Lr⟩;replace hb:=ei hb Lr;clear Lz Lr c0 c1;go_wp2_with fail
  ·refine HR.out _ _ ⟨k+1,rfl,by omega,?_,hb⟩ ?_
   ·intro i hi d hd
    rcases bD i k with h | h
    ·exact Mt.out i h d hd
    ·obtain rfl:i=k:=by omega
     rw [HE.out]at hd;injection hd with hd;rw [<- hd];exact HQ.out
   ·simp [intOf]
    omega
  ·go_ret
   exact⟨by rw [iA HE.out HQ.out Mt.out];rfl,hb⟩
theorem zA (p:iO ->Bool) (v:Value) (l:List iO) (w:World) (hl:ew 2 rz w v l) (Lq:Nat) (cs:Array Value)
  (hE:∀args w,(callFunc Lq args).run prog w= .ok (.enter Lq args) w)
  (hp:∀e∈l,∀w',Below w.heap.size w w' ->Calls prog Lq (#[.agg #[.string e.name, .int .i64 e.func]]++cs) w' (eF (p e) w')):
  Calls prog 58 #[v, .func (.func Lq) #[] cs] w (eF (l.any p) w):=by
 go_enter func58,ntmps58;go_wp2_with fail;refine(IG p v l _ hl Lq cs hE hp).mono ?_;rintro x w2 ⟨rfl,hb⟩;clear hE;go_wp2_with fail;go_ret;exact⟨by rw [<- iK];rfl,hb⟩
theorem FD (b:Bool) (s1:ByteArray) (n:Int) (Lq:Nat) (cs:Array Value) (X:Nat) (w:World)
  (hE:∀args w,(callFunc Lq args).run prog w= .ok (.enter Lq args) w) (hX:w.cell? ⟨X,0,none⟩=some (.func (.func Lq) #[] cs))
  (hp:∀w',Below w.heap.size w w' ->Calls prog Lq (#[.agg #[.string s1, .int .i64 n]]++cs) w' (eF b w')):
  Calls prog 252 #[.agg #[.string s1, .int .i64 n], .pointer (some ⟨X,0,none⟩)] w (eF (!b) w):=by
 have Lw:=aT w _ hX;have HP:=V hp;clear hp;go_enter func252,ntmps252;go_wp2_with fail;refine(HP.out _ ((an _ _).alloc (ag _) _)).mono ?_;rintro x w2 ⟨rfl,hb⟩;clear hE hX;go_wp2_with fail;go_ret;exact⟨rfl,((an _ _).alloc (ag _) _).trans (hb.mono (by simp))⟩
theorem FF (p:iO ->Bool) (v:Value) (l:List iO) (w:World) (hl:ew 2 rz w v l) (Lq:Nat) (fB:Int)
  (hE:∀args w,(callFunc Lq args).run prog w= .ok (.enter Lq args) w)
  (hp:∀e∈l,∀w',Below w.heap.size w w' ->Calls prog Lq #[.agg #[.string e.name, .int .i64 e.func]] w' (eF (p e) w')):
  Calls prog 162 #[v, .int .i64 fB, .func (.func Lq) #[] #[]] w (eF (decide ((l.length:Int) <=fB)&&l.all p) w):=by
 have HP:=V hp;obtain⟨a,cap,rfl,h1,h2⟩:∃a cap,v= .slice a l.length cap/\l.length <=cap/\cap <=9223372036854775807:=fg hl;have HL:=V hl;clear hp hl;by_cases q:(l.length:Int) <=fB
 ·have f:decide ((l.length:Int) <=fB)=true:=aA q
  go_enter func162,ntmps162;go_wp2_with fail;refine bU (zA (fun e=> !p e) _ l _ (HL.out.below ((an _ _).alloc (ag _) _)) 252 #[.pointer (some ⟨w.heap.size,0,none⟩)] (fun args w=>by rfl) ?_) ?_
  ·intro e he w' hw'
   obtain⟨hX,hw⟩:=boxed hw';exact FD (p e) _ _ Lq #[] _ w' hE hX (fun w2 h2=>by simpa using HP.out e he w2 (hw.trans (h2.mono hw.size)))
  rintro x w2 ⟨rfl,hb⟩;clear hE;have HF:=V f;clear f;have f:decide ((l.length:Int) <=fB)=true:=HF.out;go_wp2_with fail;go_ret;refine⟨?_,((an _ _).alloc (ag _) _).trans (hb.mono (by simp))⟩;have e1:l.all p= !(l.any fun e=> !p e):=by rw [bV];simp
  rw [f,e1,ct];rfl
 ·have f:decide ((l.length:Int) <=fB)=false:=aq q
  go_enter func162,ntmps162;go_wp2_with fail;go_ret;exact⟨by first | rfl | (rw [f];rfl),(an _ _).alloc (ag _) _⟩
theorem G9 (p:jb ->Bool) (v:Value) (l:List jb) (w:World) (hl:et 2 uM ig w v l) (Lq:Nat) (cs:Array Value)
  (hE:∀args w,(callFunc Lq args).run prog w= .ok (.enter Lq args) w)
  (hp:∀e∈l,∀u w',Below w.heap.size w w' ->ig w' e u ->Calls prog Lq (#[.agg #[.int .i64 e.off,u]]++cs) w' (eF (p e) w')):
  Calls prog 101 #[v, .func (.func Lq) #[] cs] w (kj p l w):=by
 have HP:=V hp;have HI:=V hl;obtain⟨a,cap,rfl,h1,h2⟩:=et.slice hl;clear hl hp;go_enter func101,ntmps101;go_wp2_with fail;refine eJ (fun a' w'=>∃(k:Nat),a'=fr (.slice a l.length cap:: .func (.func Lq) #[] cs::gs a' 2 5 (.int .i64 l.length:: .int .i64 k::gs a' 9 10 []))/\qc p l w w' k) (fun a' _=>(l.length - (intOf (a'.tmps.getD 8 undef)).toNat)) ?_ ?_
 ·exact⟨0,rfl,by omega,fun i hi=>by omega,an _ _⟩
 ·skip
  rintro R a' w1 ⟨k,Lp,hJ⟩ HR;dsimp only [fr,gs]at Lp;generalize slot a'=f at Lp;subst Lp;obtain⟨hk,hm,hb⟩:=hJ;have Mt:=V hm;clear hm;by_cases Mm:k < l.length;rotate_left
  ·obtain rfl:k=l.length:=by omega
   go_wp2_with fail;go_ret;exact⟨by rw [hI Mt.out];rfl,hb⟩
  obtain⟨e,he⟩:∃e,l[k]?=some e:=⟨_,aw Mm⟩;obtain⟨b,off,u,rfl,Lw,hc,hu⟩:=(et.below HI.out (hb.mono (ag _)) (fun _ _ h=>h.below (hb.mono (ag _)))).get he;have Lz:=HP.out e (aO he) u w1 hb hu;obtain⟨⟨a1,LF,rfl,-,-,-⟩,-⟩:=id hu;have c0:=hc 0 _ rfl;have c1:=hc 1 _ rfl;rw [aK]at c0;have HE:=V he;clear he hc hu;cases hq:p e
  all_goals
   rw [hq]at Lz;have HQ:=V hq;clear hq;go_wp2_with fail;refine Lz.mono ?_;rintro x w2 ⟨rfl,Lr⟩;replace hb:=ei hb Lr;clear Lz Lr c0 c1;go_wp2_with fail
  ·refine HR.out _ _ ⟨k+1,rfl,by omega,?_,hb⟩ ?_
   ·intro i hi d hd
    rcases bD i k with h | h
    ·exact Mt.out i h d hd
    ·obtain rfl:i=k:=by omega
     rw [HE.out]at hd;injection hd with hd;rw [<- hd];exact HQ.out
   ·simp [intOf]
    omega
  ·go_ret
   exact⟨by rw [iA HE.out HQ.out Mt.out];rfl,hb⟩
theorem vy (p:jb ->Bool) (v:Value) (l:List jb) (w:World) (hl:et 2 uM ig w v l) (Lq:Nat) (cs:Array Value)
  (hE:∀args w,(callFunc Lq args).run prog w= .ok (.enter Lq args) w)
  (hp:∀e∈l,∀u w',Below w.heap.size w w' ->ig w' e u ->Calls prog Lq (#[.agg #[.int .i64 e.off,u]]++cs) w' (eF (p e) w')):
  Calls prog 65 #[v, .func (.func Lq) #[] cs] w (eF (l.any p) w):=by
 go_enter func65,ntmps65;go_wp2_with fail;refine(G9 p v l _ hl Lq cs hE hp).mono ?_;rintro x w2 ⟨rfl,hb⟩;clear hE;go_wp2_with fail;go_ret;exact⟨by rw [<- iK];rfl,hb⟩
theorem Gy (b:Bool) (z:Int) (a1:Option Addr) (n1 c1:Nat) (Lq:Nat) (cs:Array Value) (X:Nat) (w:World)
  (hE:∀args w,(callFunc Lq args).run prog w= .ok (.enter Lq args) w) (hX:w.cell? ⟨X,0,none⟩=some (.func (.func Lq) #[] cs))
  (hp:∀w',Below w.heap.size w w' ->Calls prog Lq (#[.agg #[.int .i64 z, .slice a1 n1 c1]]++cs) w' (eF b w')):
  Calls prog 253 #[.agg #[.int .i64 z, .slice a1 n1 c1], .pointer (some ⟨X,0,none⟩)] w (eF (!b) w):=by
 have Lw:=aT w _ hX;have HP:=V hp;clear hp;go_enter func253,ntmps253;go_wp2_with fail;refine(HP.out _ ((an _ _).alloc (ag _) _)).mono ?_;rintro x w2 ⟨rfl,hb⟩;clear hE hX;go_wp2_with fail;go_ret;exact⟨rfl,((an _ _).alloc (ag _) _).trans (hb.mono (by simp))⟩
theorem GW (p:jb ->Bool) (v:Value) (l:List jb) (w:World) (hl:et 2 uM ig w v l) (Lq:Nat) (fB:Int)
  (hE:∀args w,(callFunc Lq args).run prog w= .ok (.enter Lq args) w)
  (hp:∀e∈l,∀u w',Below w.heap.size w w' ->ig w' e u ->Calls prog Lq #[.agg #[.int .i64 e.off,u]] w' (eF (p e) w')):
  Calls prog 164 #[v, .int .i64 fB, .func (.func Lq) #[] #[]] w (eF (decide ((l.length:Int) <=fB)&&l.all p) w):=by
 have HP:=V hp;obtain⟨a,cap,rfl,h1,h2⟩:∃a cap,v= .slice a l.length cap/\l.length <=cap/\cap <=9223372036854775807:=et.slice hl;have HL:=V hl;clear hp hl;by_cases q:(l.length:Int) <=fB
 ·have f:decide ((l.length:Int) <=fB)=true:=aA q
  go_enter func164,ntmps164;go_wp2_with fail;refine bU (vy (fun e=> !p e) _ l _ (et.below HL.out ((an _ _).alloc (ag _) _) (fun _ _ h=>h.below ((an _ _).alloc (ag _) _))) 253 #[.pointer (some ⟨w.heap.size,0,none⟩)] (fun args w=>by rfl) ?_) ?_
  ·intro e he u w' hw' hu
   obtain⟨hX,hw⟩:=boxed hw';obtain⟨⟨a1,LF,rfl,-,-,-⟩,-⟩:=id hu;exact Gy (p e) _ _ _ _ Lq #[] _ w' hE hX (fun w2 h2=>by simpa using HP.out e he _ w2 (hw.trans (h2.mono hw.size)) (hu.below h2))
  rintro x w2 ⟨rfl,hb⟩;clear hE;have HF:=V f;clear f;have f:decide ((l.length:Int) <=fB)=true:=HF.out;go_wp2_with fail;go_ret;refine⟨?_,((an _ _).alloc (ag _) _).trans (hb.mono (by simp))⟩;have e1:l.all p= !(l.any fun e=> !p e):=by rw [bV];simp
  rw [f,e1,ct];rfl
 ·have f:decide ((l.length:Int) <=fB)=false:=aq q
  go_enter func164,ntmps164;go_wp2_with fail;go_ret;exact⟨by first | rfl | (rw [f];rfl),(an _ _).alloc (ag _) _⟩
theorem IJ (p:gD ->Bool) (v:Value) (l:List gD) (w:World) (hl:et 2 qs gE w v l) (Lq:Nat) (cs:Array Value)
  (hE:∀args w,(callFunc Lq args).run prog w= .ok (.enter Lq args) w)
  (hp:∀e∈l,∀u w',Below w.heap.size w w' ->gE w' e u ->Calls prog Lq (#[.agg #[.int .i64 e.off,u]]++cs) w' (eF (p e) w')):
  Calls prog 288 #[v, .func (.func Lq) #[] cs] w (kj p l w):=by
 have HP:=V hp;have HI:=V hl;obtain⟨a,cap,rfl,h1,h2⟩:=et.slice hl;clear hl hp;go_enter func288,ntmps288;go_wp2_with fail;refine eJ (fun a' w'=>∃(k:Nat),a'=fr (.slice a l.length cap:: .func (.func Lq) #[] cs::gs a' 2 5 (.int .i64 l.length:: .int .i64 k::gs a' 9 10 []))/\qc p l w w' k) (fun a' _=>(l.length - (intOf (a'.tmps.getD 8 undef)).toNat)) ?_ ?_
 ·exact⟨0,rfl,by omega,fun i hi=>by omega,an _ _⟩
 ·skip
  rintro R a' w1 ⟨k,Lp,hJ⟩ HR;dsimp only [fr,gs]at Lp;generalize slot a'=f at Lp;subst Lp;obtain⟨hk,hm,hb⟩:=hJ;have Mt:=V hm;clear hm;by_cases Mm:k < l.length;rotate_left
  ·obtain rfl:k=l.length:=by omega
   go_wp2_with fail;go_ret;exact⟨by rw [hI Mt.out];rfl,hb⟩
  obtain⟨e,he⟩:∃e,l[k]?=some e:=⟨_,aw Mm⟩;obtain⟨b,off,u,rfl,Lw,hc,hu⟩:=(et.below HI.out (hb.mono (ag _)) (fun _ _ h=>h.below (hb.mono (ag _)))).get he;have Lz:=HP.out e (aO he) u w1 hb hu;obtain⟨⟨a1,LF,rfl,-,-,-⟩,-⟩:=id hu;have c0:=hc 0 _ rfl;have c1:=hc 1 _ rfl;rw [aK]at c0;have HE:=V he;clear he hc hu;cases hq:p e
  all_goals
   rw [hq]at Lz;have HQ:=V hq;clear hq;go_wp2_with fail;refine Lz.mono ?_;rintro x w2 ⟨rfl,Lr⟩;replace hb:=ei hb Lr;clear Lz Lr c0 c1;go_wp2_with fail
  ·refine HR.out _ _ ⟨k+1,rfl,by omega,?_,hb⟩ ?_
   ·intro i hi d hd
    rcases bD i k with h | h
    ·exact Mt.out i h d hd
    ·obtain rfl:i=k:=by omega
     rw [HE.out]at hd;injection hd with hd;rw [<- hd];exact HQ.out
   ·simp [intOf]
    omega
  ·go_ret
   exact⟨by rw [iA HE.out HQ.out Mt.out];rfl,hb⟩
theorem GK (p:gD ->Bool) (v:Value) (l:List gD) (w:World) (hl:et 2 qs gE w v l) (Lq:Nat) (cs:Array Value)
  (hE:∀args w,(callFunc Lq args).run prog w= .ok (.enter Lq args) w)
  (hp:∀e∈l,∀u w',Below w.heap.size w w' ->gE w' e u ->Calls prog Lq (#[.agg #[.int .i64 e.off,u]]++cs) w' (eF (p e) w')):
  Calls prog 254 #[v, .func (.func Lq) #[] cs] w (eF (l.any p) w):=by
 go_enter func254,ntmps254;go_wp2_with fail;refine(IJ p v l _ hl Lq cs hE hp).mono ?_;rintro x w2 ⟨rfl,hb⟩;clear hE;go_wp2_with fail;go_ret;exact⟨by rw [<- iK];rfl,hb⟩
theorem Gg (b:Bool) (z:Int) (a1:Option Addr) (n1 c1:Nat) (Lq:Nat) (cs:Array Value) (X:Nat) (w:World)
  (hE:∀args w,(callFunc Lq args).run prog w= .ok (.enter Lq args) w) (hX:w.cell? ⟨X,0,none⟩=some (.func (.func Lq) #[] cs))
  (hp:∀w',Below w.heap.size w w' ->Calls prog Lq (#[.agg #[.int .i64 z, .slice a1 n1 c1]]++cs) w' (eF b w')):
  Calls prog 255 #[.agg #[.int .i64 z, .slice a1 n1 c1], .pointer (some ⟨X,0,none⟩)] w (eF (!b) w):=by
 have Lw:=aT w _ hX;have HP:=V hp;clear hp;go_enter func255,ntmps255;go_wp2_with fail;refine(HP.out _ ((an _ _).alloc (ag _) _)).mono ?_;rintro x w2 ⟨rfl,hb⟩;clear hE hX;go_wp2_with fail;go_ret;exact⟨rfl,((an _ _).alloc (ag _) _).trans (hb.mono (by simp))⟩
theorem Gk (p:gD ->Bool) (v:Value) (l:List gD) (w:World) (hl:et 2 qs gE w v l) (Lq:Nat) (fB:Int)
  (hE:∀args w,(callFunc Lq args).run prog w= .ok (.enter Lq args) w)
  (hp:∀e∈l,∀u w',Below w.heap.size w w' ->gE w' e u ->Calls prog Lq #[.agg #[.int .i64 e.off,u]] w' (eF (p e) w')):
  Calls prog 167 #[v, .int .i64 fB, .func (.func Lq) #[] #[]] w (eF (decide ((l.length:Int) <=fB)&&l.all p) w):=by
 have HP:=V hp;obtain⟨a,cap,rfl,h1,h2⟩:∃a cap,v= .slice a l.length cap/\l.length <=cap/\cap <=9223372036854775807:=et.slice hl;have HL:=V hl;clear hp hl;by_cases q:(l.length:Int) <=fB
 ·have f:decide ((l.length:Int) <=fB)=true:=aA q
  go_enter func167,ntmps167;go_wp2_with fail;refine bU (GK (fun e=> !p e) _ l _ (et.below HL.out ((an _ _).alloc (ag _) _) (fun _ _ h=>h.below ((an _ _).alloc (ag _) _))) 255 #[.pointer (some ⟨w.heap.size,0,none⟩)] (fun args w=>by rfl) ?_) ?_
  ·intro e he u w' hw' hu
   obtain⟨hX,hw⟩:=boxed hw';obtain⟨⟨a1,LF,rfl,-,-,-⟩,-⟩:=id hu;exact Gg (p e) _ _ _ _ Lq #[] _ w' hE hX (fun w2 h2=>by simpa using HP.out e he _ w2 (hw.trans (h2.mono hw.size)) (hu.below h2))
  rintro x w2 ⟨rfl,hb⟩;clear hE;have HF:=V f;clear f;have f:decide ((l.length:Int) <=fB)=true:=HF.out;go_wp2_with fail;go_ret;refine⟨?_,((an _ _).alloc (ag _) _).trans (hb.mono (by simp))⟩;have e1:l.all p= !(l.any fun e=> !p e):=by rw [bV];simp
  rw [f,e1,ct];rfl
 ·have f:decide ((l.length:Int) <=fB)=false:=aq q
  go_enter func167,ntmps167;go_wp2_with fail;go_ret;exact⟨by first | rfl | (rw [f];rfl),(an _ _).alloc (ag _) _⟩
theorem H9 (p:eS ->Bool) (v:Value) (l:List eS) (w:World) (hl:et 4 qf gZ w v l) (Lq:Nat) (cs:Array Value)
  (hE:∀args w,(callFunc Lq args).run prog w= .ok (.enter Lq args) w)
  (hp:∀e∈l,∀u w',Below w.heap.size w w' ->gZ w' e u ->Calls prog Lq (#[.agg #[.int .i64 e.op, .int .i64 e.a, .int .i64 e.b,u]]++cs) w' (eF (p e) w')):
  Calls prog 244 #[v, .func (.func Lq) #[] cs] w (kj p l w):=by
 have HP:=V hp;have HI:=V hl;obtain⟨a,cap,rfl,h1,h2⟩:=et.slice hl;clear hl hp;go_enter func244,ntmps244;go_wp2_with fail;refine eJ (fun a' w'=>∃(k:Nat),a'=fr (.slice a l.length cap:: .func (.func Lq) #[] cs::gs a' 2 5 (.int .i64 l.length:: .int .i64 k::gs a' 9 10 []))/\qc p l w w' k) (fun a' _=>(l.length - (intOf (a'.tmps.getD 8 undef)).toNat)) ?_ ?_
 ·exact⟨0,rfl,by omega,fun i hi=>by omega,an _ _⟩
 ·skip
  rintro R a' w1 ⟨k,Lp,hJ⟩ HR;dsimp only [fr,gs]at Lp;generalize slot a'=f at Lp;subst Lp;obtain⟨hk,hm,hb⟩:=hJ;have Mt:=V hm;clear hm;by_cases Mm:k < l.length;rotate_left
  ·obtain rfl:k=l.length:=by omega
   go_wp2_with fail;go_ret;exact⟨by rw [hI Mt.out];rfl,hb⟩
  obtain⟨e,he⟩:∃e,l[k]?=some e:=⟨_,aw Mm⟩;obtain⟨b,off,u,rfl,Lw,hc,hu⟩:=(et.below HI.out (hb.mono (ag _)) (fun _ _ h=>h.below (hb.mono (ag _)))).get he;have Lz:=HP.out e (aO he) u w1 hb hu;obtain⟨⟨a1,LF,rfl,-,-,-⟩,-⟩:=id hu;have c0:=hc 0 _ rfl;have c1:=hc 1 _ rfl;have c2:=hc 2 _ rfl;have c3:=hc 3 _ rfl;rw [aK]at c0;have HE:=V he;clear he hc hu;cases hq:p e
  all_goals
   rw [hq]at Lz;have HQ:=V hq;clear hq;go_wp2_with fail;refine Lz.mono ?_;rintro x w2 ⟨rfl,Lr⟩;replace hb:=ei hb Lr;clear Lz Lr c0 c1 c2 c3;go_wp2_with fail
  ·refine HR.out _ _ ⟨k+1,rfl,by omega,?_,hb⟩ ?_
   ·intro i hi d hd
    rcases bD i k with h | h
    ·exact Mt.out i h d hd
    ·obtain rfl:i=k:=by omega
     rw [HE.out]at hd;injection hd with hd;rw [<- hd];exact HQ.out
   ·simp [intOf]
    omega
  ·go_ret
   exact⟨by rw [iA HE.out HQ.out Mt.out];rfl,hb⟩
theorem Gw (p:eS ->Bool) (v:Value) (l:List eS) (w:World) (hl:et 4 qf gZ w v l) (Lq:Nat) (cs:Array Value)
  (hE:∀args w,(callFunc Lq args).run prog w= .ok (.enter Lq args) w)
  (hp:∀e∈l,∀u w',Below w.heap.size w w' ->gZ w' e u ->Calls prog Lq (#[.agg #[.int .i64 e.op, .int .i64 e.a, .int .i64 e.b,u]]++cs) w' (eF (p e) w')):
  Calls prog 148 #[v, .func (.func Lq) #[] cs] w (eF (l.any p) w):=by
 go_enter func148,ntmps148;go_wp2_with fail;refine(H9 p v l _ hl Lq cs hE hp).mono ?_;rintro x w2 ⟨rfl,hb⟩;clear hE;go_wp2_with fail;go_ret;exact⟨by rw [<- iK];rfl,hb⟩
theorem Fh (b:Bool) (z1 z2 z3:Int) (a1:Option Addr) (n1 c1:Nat) (Lq:Nat) (cs:Array Value) (X:Nat) (w:World)
  (hE:∀args w,(callFunc Lq args).run prog w= .ok (.enter Lq args) w) (hX:w.cell? ⟨X,0,none⟩=some (.func (.func Lq) #[] cs))
  (hp:∀w',Below w.heap.size w w' ->Calls prog Lq (#[.agg #[.int .i64 z1, .int .i64 z2, .int .i64 z3, .slice a1 n1 c1]]++cs) w' (eF b w')):
  Calls prog 149 #[.agg #[.int .i64 z1, .int .i64 z2, .int .i64 z3, .slice a1 n1 c1], .pointer (some ⟨X,0,none⟩)] w (eF (!b) w):=by
 have Lw:=aT w _ hX;have HP:=V hp;clear hp;go_enter func149,ntmps149;go_wp2_with fail;refine(HP.out _ ((an _ _).alloc (ag _) _)).mono ?_;rintro x w2 ⟨rfl,hb⟩;clear hE hX;go_wp2_with fail;go_ret;exact⟨rfl,((an _ _).alloc (ag _) _).trans (hb.mono (by simp))⟩
theorem GQ (p:eS ->Bool) (v:Value) (l:List eS) (w:World) (hl:et 4 qf gZ w v l) (Lq:Nat) (fB:Int)
  (hE:∀args w,(callFunc Lq args).run prog w= .ok (.enter Lq args) w)
  (hp:∀e∈l,∀u w',Below w.heap.size w w' ->gZ w' e u ->Calls prog Lq #[.agg #[.int .i64 e.op, .int .i64 e.a, .int .i64 e.b,u]] w' (eF (p e) w')):
  Calls prog 94 #[v, .int .i64 fB, .func (.func Lq) #[] #[]] w (eF (decide ((l.length:Int) <=fB)&&l.all p) w):=by
 have HP:=V hp;obtain⟨a,cap,rfl,h1,h2⟩:∃a cap,v= .slice a l.length cap/\l.length <=cap/\cap <=9223372036854775807:=et.slice hl;have HL:=V hl;clear hp hl;by_cases q:(l.length:Int) <=fB
 ·have f:decide ((l.length:Int) <=fB)=true:=aA q
  go_enter func94,ntmps94;go_wp2_with fail;refine bU (Gw (fun e=> !p e) _ l _ (et.below HL.out ((an _ _).alloc (ag _) _) (fun _ _ h=>h.below ((an _ _).alloc (ag _) _))) 149 #[.pointer (some ⟨w.heap.size,0,none⟩)] (fun args w=>by rfl) ?_) ?_
  ·intro e he u w' hw' hu
   obtain⟨hX,hw⟩:=boxed hw';obtain⟨⟨a1,LF,rfl,-,-,-⟩,-⟩:=id hu;exact Fh (p e) _ _ _ _ _ _ Lq #[] _ w' hE hX (fun w2 h2=>by simpa using HP.out e he _ w2 (hw.trans (h2.mono hw.size)) (hu.below h2))
  rintro x w2 ⟨rfl,hb⟩;clear hE;have HF:=V f;clear f;have f:decide ((l.length:Int) <=fB)=true:=HF.out;go_wp2_with fail;go_ret;refine⟨?_,((an _ _).alloc (ag _) _).trans (hb.mono (by simp))⟩;have e1:l.all p= !(l.any fun e=> !p e):=by rw [bV];simp
  rw [f,e1,ct];rfl
 ·have f:decide ((l.length:Int) <=fB)=false:=aq q
  go_enter func94,ntmps94;go_wp2_with fail;go_ret;exact⟨by first | rfl | (rw [f];rfl),(an _ _).alloc (ag _) _⟩
def Wr (w:World) (b:Value) (B:Nat) (w':World) (v:Value) (L:List UInt8):Prop:=eg w' B v L/\ee (eH b) w w'/\eM w b v
theorem Wr.refl {w:World} {b:Value} {B:Nat} {L:List UInt8} (h:eg w B b L):Wr w b B w b L:=⟨h,ee.refl _ _,eM.refl _ _⟩
theorem Wr.step {w w1 w2:World} {b v1 v2:Value} {B:Nat} {L1 L2:List UInt8} (h:Wr w b B w1 v1 L1) (k:Wr w1 v1 B w2 v2 L2):Wr w b B w2 v2 L2:=
 ⟨k.1,h.2.1.trans k.2.1 (fun i hi=>h.2.2 i hi),h.2.2.trans k.2.2 h.2.1.size⟩
theorem Wr.alloc {w w1:World} {b v:Value} {B:Nat} {L:List UInt8} (h:Wr w b B w1 v L) (o:Obj):Wr w b B (w1.alloc o) v L:=⟨World.ownsRow.alloc h.1 _,h.2.1.alloc _,h.2.2⟩
theorem Wr.drew {w w1:World} {b v:Value} {B:Nat} {L:List UInt8} (h:Wr w b B w1 v L):Wr w b B w1.drew v L:=⟨h.1,h.2.1.drew,h.2.2⟩
theorem Wr.size {w w1:World} {b v:Value} {B:Nat} {L:List UInt8} (h:Wr w b B w1 v L):w.heap.size <=w1.heap.size:=h.2.1.size
theorem Wr.base {w w1:World} {b v:Value} {B:Nat} {L:List UInt8} (h:Wr w b B w1 v L) (hB:B <=w.heap.size):B <=w1.heap.size:=aW hB h.size
theorem Wr.below {w w1 w2:World} {b v:Value} {B:Nat} {L:List UInt8} (h:Wr w b B w1 v L) (hb:Below w1.heap.size w1 w2):Wr w b B w2 v L:=
 ⟨eg.below h.1 hb,h.2.1.trans (ee.eh (S:=fun _=>False) hb) (fun _ hi=>hi.elim),h.2.2⟩
def Aside (w:World) (b:Value) (X:Nat) (cs:Array Value) (t:TypeId):Prop:=eP w X cs t/\¬ eH b X
theorem Aside.next {w w1:World} {b v:Value} {B:Nat} {L:List UInt8} {X:Nat} {cs:Array Value} {t:TypeId} (h:Aside w b X cs t) (k:Wr w b B w1 v L):Aside w1 v X cs t:=
 ⟨h.1.keeps k.2.1 h.2,fun g=>(k.2.2 X g).elim h.2 (fun g=>by have:=h.1.lt;omega)⟩
theorem Aside.new {w:World} {b:Value} {B:Nat} {L:List UInt8} (h:eg w B b L) (cs:Array Value) (t:TypeId):Aside (w.alloc (.cells cs t)) b w.heap.size cs t:=
 ⟨eP.new w cs t,fun g=>by have:=(eE h g).2;omega⟩
theorem Aside.alloc {w:World} {b:Value} {X:Nat} {cs:Array Value} {t:TypeId} (h:Aside w b X cs t) (o:Obj):Aside (w.alloc o) b X cs t:=⟨h.1.alloc o,h.2⟩
theorem Aside.drew {w:World} {b:Value} {X:Nat} {cs:Array Value} {t:TypeId} (h:Aside w b X cs t):Aside w.drew b X cs t:=⟨h.1.drew,h.2⟩
theorem Aside.cell {w:World} {b:Value} {X:Nat} {cs:Array Value} {t:TypeId} (h:Aside w b X cs t) (i:Nat):w.cell? ⟨X,i,none⟩=cs[i]?:=h.1.cell i
def Src (w0 w:World) (B:Nat):Prop:=Below w0.heap.size w0 w/\w0.heap.size <=B
theorem Src.next {w0 w w1:World} {b v:Value} {B:Nat} {L0 L:List UInt8} (h:Src w0 w B) (Lo:eg w B b L0) (k:Wr w b B w1 v L):Src w0 w1 B:=
 ⟨h.1.trans (k.2.1.below h.1.size (fun _ hi=>aW h.2 (eE Lo hi).1)),h.2⟩
theorem Src.alloc {w0 w:World} {B:Nat} (h:Src w0 w B) (o:Obj):Src w0 (w.alloc o) B:=⟨h.1.alloc h.1.size o,h.2⟩
theorem Src.drew {w0 w:World} {B:Nat} (h:Src w0 w B):Src w0 w.drew B:=⟨h.1.drew,h.2⟩
theorem Src.below {w0 w w1:World} {B:Nat} (h:Src w0 w B) (hb:Below w.heap.size w w1):Src w0 w1 B:=⟨h.1.trans (hb.mono h.1.size),h.2⟩
theorem Aside.below {w w1:World} {b:Value} {X:Nat} {cs:Array Value} {t:TypeId} (h:Aside w b X cs t) (hb:Below w.heap.size w w1):Aside w1 b X cs t:=⟨h.1.below hb h.1.lt,h.2⟩
end Go.Proofs.YthbjdhjppbcneaaGreatDoor
