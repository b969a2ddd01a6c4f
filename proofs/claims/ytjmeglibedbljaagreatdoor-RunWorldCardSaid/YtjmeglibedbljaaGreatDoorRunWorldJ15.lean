import Derived.Test.YtjmeglibedbljaaGreatDoorRunWorldJ14
import Derived.OpenShut
import Derived.Deep.Slices
import Derived.ProofKit
import Derived.Lib.SmallJoins
namespace Go.Proofs.YtjmeglibedbljaaGreatDoor
set_option maxRecDepth 100000
set_option maxHeartbeats 20000000
open Go.RowKit Tryz
open Lib renaming hid->V
set_option linter.all false
theorem jb.lt {w:World} {F FX:Nat ->Bool} {X b:Nat} {iv:lg} {m:eI} {q:zL} {s:fP} (h:jb w F FX X b iv m q s):b < w.heap.size:=by
 obtain⟨a,c,h1,-,-⟩:=h.run;obtain⟨v,h2,-⟩:=h1.st;exact h2.jE.lt
theorem iM.Ca {w:World} {FX:Nat ->Bool} {X:Nat} {iv:lg} {m:eI} (h:iM w FX X iv m) {nm:ByteArray} {fn:Int} (hm:m.ey=[⟨nm,fn⟩]):Calls prog 22 #[.pointer (some ⟨X,0,none⟩), .string nm] w (fX (.tuple #[.int .i64 fn, .bool true]) w):=by
 have h1:=h.is.2.2.2.2.1;rw [hm]at h1;obtain⟨b,off,cap,he,hc,hm2,-,NA⟩:=eA.at h1 (i:=0) (x:=⟨nm,fn⟩) rfl;have Sl:w.cell? ⟨X,10,none⟩=some iv.u.ey:=h.jE.cell 10;rw [he]at Sl;exact qW w X b off cap fn nm Sl ⟨hc,by unfold maxLen;omega⟩ (NA 0 _ rfl) (NA 1 _ rfl)
theorem iM.MP {w:World} {FX:Nat ->Bool} {X:Nat} {iv:lg} {m:eI} (h:iM w FX X iv m) {nm nm2:ByteArray} {fn:Int} (hm:m.ey=[⟨nm,fn⟩]) (Ox:(nm.toList==nm2.toList)=false):Calls prog 22 #[.pointer (some ⟨X,0,none⟩), .string nm2] w (fX (.tuple #[.int .i64 0, .bool false]) w):=by
 have h1:=h.is.2.2.2.2.1;rw [hm]at h1;obtain⟨b,off,cap,he,hc,hm2,-,NA⟩:=eA.at h1 (i:=0) (x:=⟨nm,fn⟩) rfl;have Sl:w.cell? ⟨X,10,none⟩=some iv.u.ey:=h.jE.cell 10;rw [he]at Sl;exact pP w X b off cap fn nm nm2 Sl ⟨hc,by unfold maxLen;omega⟩ (NA 0 _ rfl) (NA 1 _ rfl) Ox
theorem zz (w:World) (F FX:Nat ->Bool) (X b:Nat) (iv:lg) (m:eI) (q:zL) (s0 s1:fP) (r:gz × fP) (n:Nat) (h:jb w F FX X b iv m q s0) (h0:q.o=gz.more) (hn:2 <=n/\n <=1000000) (hq:q.n+2 <=1000) (hend:n=2\/r.1.kind≠1) (Sg:r.1.eu.length <=1000)
  (h1:je m s0 (gz.more,s1)) (h2:je m s1 r) (c0:oh m s0) (c1:oh m s1):
  Calls prog 9 #[.pointer (some ⟨b,0,none⟩), .int .i64 (n:Int)] w (KK F FX X b iv m {q with o:=r.1,n:=q.n+2} r.2 w):=
 KZ w F FX X b iv m q (fun i=>match i with | 0=>s0 | 1=>s1 | _=>r.2) (fun i=>match i with | 0=>gz.more | 1=>gz.more | _=>r.1) 2 n h h0 hn.1 hn.2 hq
  (fun i hi=>by match i,hi with | 0,_=>rfl | 1,_=>rfl) (hend.imp (fun h=>h.symm) id)
  (fun i hi=>by match i,hi with | 0,_=>simp [gz.more] | 1,_=>simp [gz.more] | 2,_=>exact Sg)
  (fun i hi=>by match i,hi with | 0,_=>exact h1 | 1,_=>exact h2)
  (fun i hi=>by match i,hi with | 0,_=>exact c0 | 1,_=>exact c1)
theorem sf (w:World) (n:Int):Calls prog 19 #[.int .i64 n] w (fX (.agg #[.int .i64 1, .int .i64 n]) w):=by
 have hb:=(an w.heap.size w).alloc (ag _) (.cells #[.int .i64 1, .int .i64 n] 52);have HX:=V (eS.new w #[.int .i64 1, .int .i64 n] 52);have HB:=V hb;clear hb;go_enter func19,ntmps19;go_wp2_with fail;refine aF (eH rfl _ _ rfl HX.out.mj) rfl ?_;exact⟨rfl,HB.out⟩
theorem zX (w:World):Calls prog 20 #[] w (jM w):=by
 go_enter func20,ntmps20;go_wp2_with fail;refine(Au w).mono ?_;rintro x w1 ⟨rfl,hb⟩;go_wp2;go_ret;exact⟨rfl,hb⟩
theorem Hs (a b c:Int) (p:Option Addr) (l k:Nat) (w:World):(Instr.field 49 (.agg #[.int .i64 a, .int .i64 b, .int .i64 c, .slice p l k]) 0).run prog w= .ok (.int .i64 a) w:=by kernel_rfl
def D1 (pc:Nat) (eu:List fi):fP:=⟨eu,[⟨0,(pc:Int),[⟨1,2⟩,⟨1,3⟩],0,[]⟩],-1⟩
theorem um (pc:Nat) (eu:List fi):oh (fo 0 gp) (D1 pc eu):=by
 refine⟨eu,[],⟨0,(pc:Int),[⟨1,2⟩,⟨1,3⟩],0,[]⟩,-1,0,pc,⟨[],gp⟩,rfl,rfl,rfl,by decide,rfl,fun x hx=>?_⟩;have:=aN hx;simp only [gp,bx,bI,cH]at this;rcases this with rfl | rfl | rfl <;>(unfold qz;decide)
theorem Ho:je (fo 0 gp) (D1 0 []) (gz.more,D1 1 [⟨1,2⟩]):=fun w F FX X b iv post h=>
 iD.local w F FX X b iv _ [.pointer (some ⟨X,0,none⟩)] post _ [] [] ⟨0,0,[⟨1,2⟩,⟨1,3⟩],0,[]⟩ (-1) 0 0 ⟨[],gp⟩ h rfl rfl (by decide) rfl 0 ⟨1,2⟩ rfl rfl (by decide) (by decide)
theorem I0:je (fo 0 gp) (D1 1 [⟨1,2⟩]) (gz.more,D1 2 [⟨1,2⟩,⟨1,3⟩]):=fun w F FX X b iv post h=>
 iD.local w F FX X b iv _ [.pointer (some ⟨X,0,none⟩)] post _ [⟨1,2⟩] [] ⟨0,1,[⟨1,2⟩,⟨1,3⟩],0,[]⟩ (-1) 0 1 ⟨[],gp⟩ h rfl rfl (by decide) rfl 1 ⟨1,3⟩ rfl rfl (by decide) (by decide)
theorem Gr:je (fo 0 gp) (D1 2 [⟨1,2⟩,⟨1,3⟩]) (gz.more,D1 3 [⟨1,5⟩]):=fun w F FX X b iv post h=>by
 have E:=iD.sum w F FX X b iv _ [.pointer (some ⟨X,0,none⟩)] post _ [] [] ⟨0,2,[⟨1,2⟩,⟨1,3⟩],0,[]⟩ (-1) 2 3 0 2 ⟨[],gp⟩ h rfl rfl (by decide) rfl rfl (by decide) (by decide) (by unfold oS;decide) (by unfold oS;decide);rw [show wrap32 (2+3)=5 by decide+kernel]at E;exact E
theorem F6:je (fo 0 gp) (D1 3 [⟨1,5⟩]) (⟨3,0,0,[⟨1,5⟩]⟩,⟨[⟨1,5⟩],[],-1⟩):=fun w F FX X b iv post h=>
 iD.ret w F FX X b iv _ [.pointer (some ⟨X,0,none⟩)] post _ [] [⟨1,5⟩] [] ⟨0,3,[⟨1,2⟩,⟨1,3⟩],0,[]⟩ (-1) 0 3 ⟨[],gp⟩ ⟨[1,1],[1]⟩ h rfl rfl (by decide) rfl (by decide) zI (by decide) rfl (by simp) (by decide)
theorem vP {w:World} {A:Nat} (h:eS w A #[.int .i64 1, .int .i64 2, .int .i64 1, .int .i64 3] 52):eA 2 fR w (.slice (some ⟨A,0,none⟩) 2 2) [⟨1,2⟩,⟨1,3⟩]:=h.rws fK [⟨1,2⟩,⟨1,3⟩] [] rfl 2 (ag _) (by decide)
theorem AS:vr true [1,1] [⟨1,2⟩,⟨1,3⟩]:= .inl ⟨rfl,rfl,fun v hv=>by
 simp only [bx,bI,cH]at hv;rcases hv with rfl | rfl <;>decide⟩
theorem B8 (w:World):Calls prog 5 #[] w (jM w):=by
 have HF:=V nU;have QI:=V zI;have HEX:=V (show(fo 0 gp).ey=[⟨mR,0⟩]from rfl);have HIM:=V (show km (fo 0 gp) 0=false from rfl);have HC:=V JW;go_enter func5,ntmps5;go_wp2_with fail;refine(iJ w).mono ?_;rintro x w1 ⟨rfl,hs,hb,-⟩;have HB:=V hb;have HI:=V (hs.is (hs.body 3 (ag _)) (by simp [iV]));clear hs hb;go_wp2_with fail;refine(AD (fo 0 gp) (iu w.heap.size) _ _ HI.out (kk _ _) (fun c hc=>fun x hx=>((ir 0 gp kW c hc).2 x hx).2) (by decide) rfl HF.out.1 qa).mono ?_;rintro x w2 ⟨X,b,F,FX,iv,rfl,hm,hF,hb⟩;have P6:=V (fun i hi=>aQ HB.out.size (hF i hi));replace HB:=V (ej HB.out hb);obtain⟨m,Q9⟩:∃m,m=fo 0 gp:=⟨_,rfl⟩;have N1:=V Q9;rw [<- Q9]at hm QI HEX HIM HC;have Rn:=V (show m.imports.length=0/\m.funcs.length=1 by rw [Q9];exact⟨rfl,rfl⟩);have HM:=V hm;clear hm hF hb HI Q9;go_wp2_with fail;refine(qw w2 F FX X b iv m _ _ HM.out _ (.slice none 0 0) [] 0 false false 9 ⟨[],[]⟩ (.inl ⟨rfl,rfl⟩) (eA.nil _) (HM.out.inst.MP HEX.out (by rw [cS,cS];rfl)) (fun h=>by cases h) (by rw [Rn.out.1,Rn.out.2];decide) HIM.out).mono ?_;rintro x w3 ⟨rfl,hb⟩;replace HM:=V (HM.out.below hb);replace HB:=V (ej HB.out hb);clear hb;go_wp2_with fail;refine(qw w3 F FX X b iv m _ _ HM.out _ (.slice none 0 0) [] 0 true false 6 ⟨[1,1],[1]⟩ (.inr ⟨rfl, .inl ⟨rfl,rfl⟩⟩) (eA.nil _) (HM.out.inst.Ca HEX.out) (fun _=>⟨QI.out, .inr ⟨rfl,by decide⟩⟩) (by rw [Rn.out.1,Rn.out.2];decide) HIM.out).mono ?_;rintro x w4 ⟨rfl,hb⟩;replace HM:=V (HM.out.below hb);replace HB:=V (ej HB.out hb);clear hb;go_wp2_with fail;refine(sf _ 2).mono ?_;rintro x w5 ⟨rfl,hb⟩;replace HM:=V (HM.out.below hb);replace HB:=V (ej HB.out hb);clear hb;go_wp2_with fail;refine(sf _ 3).mono ?_;rintro x w6 ⟨rfl,hb⟩;replace HM:=V (HM.out.below hb);replace HB:=V (ej HB.out hb);clear hb;have N2:=HM.out.lt;have hb:=(an w6.heap.size w6).alloc (ag _) (.cells #[.int .i64 1, .int .i64 2, .int .i64 1, .int .i64 3] 52);have HA:=V (eS.new w6 #[.int .i64 1, .int .i64 2, .int .i64 1, .int .i64 3] 52);replace HM:=V (HM.out.below hb);replace HB:=V (ej HB.out hb);clear hb;go_wp2_with fail;refine(yw _ F FX X b iv m _ _ HM.out _ _ [⟨1,2⟩,⟨1,3⟩] 0 ⟨[],gp⟩ ⟨[1,1],[1]⟩ 0 rfl (fun w2 hb=>⟨vP (HA.out.below hb HA.out.lt),vP ((HA.out.below hb HA.out.lt).keeps (pI w2 b) (by omega))⟩) (HM.out.inst.Ca HEX.out) QI.out AS HC.out (by rw [Rn.out.1];rfl) (by rw [Rn.out.1,Rn.out.2];decide) (by decide) (by decide) (by decide)).mono ?_;rintro x w7 ⟨rfl,hm,hk⟩;rw [show mO (([1,1]:List Int)++[]) ⟨[],[],-1⟩ 0 [⟨1,2⟩,⟨1,3⟩]=(gz.more,D1 0 [])from rfl]at hm;replace HM:=V hm;replace HB:=V (HB.out.trans (hk.below HB.out.size P6.out));clear hm hk N2 HA;go_wp2_with fail;refine(sf _ 2).mono ?_;rintro x w8 ⟨rfl,hb⟩;replace HM:=V (HM.out.below hb);replace HB:=V (ej HB.out hb);clear hb;go_wp2_with fail;refine(sf _ 3).mono ?_;rintro x w9 ⟨rfl,hb⟩;replace HM:=V (HM.out.below hb);replace HB:=V (ej HB.out hb);clear hb;have N2:=HM.out.lt;have hb:=(an w9.heap.size w9).alloc (ag _) (.cells #[.int .i64 1, .int .i64 2, .int .i64 1, .int .i64 3] 52);have HA:=V (eS.new w9 #[.int .i64 1, .int .i64 2, .int .i64 1, .int .i64 3] 52);replace HM:=V (HM.out.below hb);replace HB:=V (ej HB.out hb);clear hb;go_wp2_with fail;refine(qw _ F FX X b iv m _ _ HM.out _ _ [⟨1,2⟩,⟨1,3⟩] 0 true true 12 ⟨[1,1],[1]⟩ (.inr ⟨rfl, .inr ⟨rfl,rfl,rfl⟩⟩) (vP HA.out) (HM.out.inst.Ca HEX.out) (fun _=>⟨QI.out,AS⟩) (by rw [Rn.out.1,Rn.out.2];decide) HIM.out).mono ?_;rintro x w10 ⟨rfl,hb⟩;replace HM:=V (HM.out.below hb);replace HB:=V (ej HB.out hb);clear hb N2 HA;go_wp2_with fail;refine(zz w10 F FX X b iv m _ (D1 0 []) (D1 1 [⟨1,2⟩]) (gz.more,D1 2 [⟨1,2⟩,⟨1,3⟩]) 2 HM.out rfl (by decide) (by decide) (.inl rfl) (by decide) (by rw [N1.out];exact Ho) (by rw [N1.out];exact I0) (by rw [N1.out];exact um _ _) (by rw [N1.out];exact um _ _)).mono ?_;rintro x Ry ⟨vv,F2,rfl,OY,hm,hF2,hk⟩;obtain⟨a1,c1,rfl,-,-⟩:=OY.slice;replace HB:=V (HB.out.trans (hk.below HB.out.size P6.out));have hb:=(an Ry.heap.size Ry).alloc (ag _) (.cells #[.int .i64 1, .int .i64 0, .int .i64 0, .slice a1 0 c1] 49);have HY:=V (eS.new Ry #[.int .i64 1, .int .i64 0, .int .i64 0, .slice a1 0 c1] 49);replace HM:=V (hm.add hb Ry.heap.size (ag _) (by simp));replace HB:=V (ej HB.out hb);obtain⟨F3,hF3⟩:∃F3:Nat ->Bool,F3=fun g=>F2 g || decide (g=Ry.heap.size):=⟨_,rfl⟩;rw [<- hF3]at HM;replace P6:=V (show∀i,F3 i=false ->w.heap.size <=i by
  intro i hi;rw [hF3,dw]at hi;exact P6.out i (hF2 i hi.1))
 have HFY:=V (show F3 Ry.heap.size=true by rw [hF3];simp);clear OY hm hF2 hk hb hF3;simp only [lq,gz.more,aH]at HY⊢;go_wp2_with fail;refine(zz _ F3 FX X b iv m _ (D1 2 [⟨1,2⟩,⟨1,3⟩]) (D1 3 [⟨1,5⟩]) (⟨3,0,0,[⟨1,5⟩]⟩,⟨[⟨1,5⟩],[],-1⟩) 9 HM.out rfl (by decide) (by decide) (.inr (by decide)) (by decide) (by rw [N1.out];exact Gr) (by rw [N1.out];exact F6) (by rw [N1.out];exact um _ _) (by rw [N1.out];exact um _ _)).mono ?_;rintro x w13 ⟨vv,F4,rfl,OY,hm,-,hk⟩;obtain⟨b5,o5,c5,rfl,NX,OS,Nu,NS⟩:=eA.at (OY.fT fK) (i:=0) (x:=⟨1,5⟩) rfl;replace HY:=V (HY.out.keeps hk (by rw [HFY.out];simp));replace HB:=V (HB.out.trans (hk.below HB.out.size P6.out));have hb:=(an w13.heap.size w13).alloc (ag _) (.cells #[.int .i64 3, .int .i64 0, .int .i64 0, .slice (some ⟨b5,o5,none⟩) 1 c5] 49);have HP:=V (eS.new w13 #[.int .i64 3, .int .i64 0, .int .i64 0, .slice (some ⟨b5,o5,none⟩) 1 c5] 49);have HV:=V (show World.cell? (w13.alloc (.cells #[.int .i64 3, .int .i64 0, .int .i64 0, .slice (some ⟨b5,o5,none⟩) 1 c5] 49)) ⟨b5,o5+1,none⟩=some (.int .i64 5)/\b5 < (w13.alloc (.cells #[.int .i64 3, .int .i64 0, .int .i64 0, .slice (some ⟨b5,o5,none⟩) 1 c5] 49)).heap.size from⟨by rw [aY (hb.block b5 Nu)];exact NS 1 _ rfl,by simp;omega⟩);replace HM:=V (hm.below hb);replace HY:=V (HY.out.below hb HY.out.lt);replace HB:=V (ej HB.out hb);have hcap1:1 <=c5:=NX;clear OY hk hm NS hb Nu NX P6 HFY;simp only [lq,aD,aH];go_wp2_with fail;refine(zX _).mono ?_;rintro x w14 ⟨rfl,hb⟩;replace HM:=V (HM.out.below hb);replace HB:=V (ej HB.out hb);replace HY:=V (HY.out.below hb HY.out.lt);replace HP:=V (HP.out.below hb HP.out.lt);replace HV:=V (show World.cell? _ ⟨b5,o5+1,none⟩=some (.int .i64 5)/\b5 < _ from⟨(aY (Below.block hb b5 HV.out.2)).trans HV.out.1,bp HV.out.2 (Below.size hb)⟩);clear hb;obtain⟨⟨y0,y1,y2,y3⟩,-,-,-,-⟩:=HY.out.four;obtain⟨⟨p0,p1,p2,p3⟩,-,-,-,-⟩:=HP.out.four;have v1:=HV.out.1;have g1:(FloatKind.f64.format.order 4616189618054758400 4616189618054758400==some .eq)=true:=by decide+kernel
 have g2:(FloatKind.f64.format.order 0 0==some .eq)=true:=by decide+kernel
 go_wp2_with fail;clear y0 y1 y2 y3 p0 p1 p2 p3 v1 HY HP HV;refine(Cu HM.out).mono ?_;rintro x w15 ⟨rfl,hb⟩;replace HM:=V (HM.out.below hb);replace HB:=V (ej HB.out hb);clear hb;rw [show fl (0+2+2)=4616189618054758400 from Jn,oV];go_wp2_with fail;refine(xr HM.out 1 (by decide)).mono ?_;rintro x w16 ⟨rfl,hb⟩;replace HM:=V (HM.out.below hb);replace HB:=V (ej HB.out hb);clear hb;go_wp2_with fail;refine(rn HM.out).mono ?_;rintro x w17 ⟨rfl,hb⟩;replace HM:=V (HM.out.below hb);replace HB:=V (ej HB.out hb);clear hb;go_wp2_with fail;refine(Ey HM.out).mono ?_;rintro x w18 ⟨rfl,hb⟩;replace HM:=V (HM.out.below hb);replace HB:=V (ej HB.out hb);clear hb;rw [show fl (0,0).1=0 from oV];go_wp2_with fail;refine(Fu HM.out).mono ?_;rintro x w19 ⟨rfl,hb⟩;replace HM:=V (HM.out.below hb);replace HB:=V (ej HB.out hb);clear hb;go_wp2_with fail;refine(rX HM.out).mono ?_;rintro x w20 ⟨vv,rfl,ho,hb⟩;obtain⟨a9,c9,rfl,-,-⟩:=ho.slice;clear ho;replace HB:=V (ej HB.out hb);simp only [lq,aD,aH];have hk:=fun wx=>Hs 3 0 0 a9 1 c9 wx;go_wp2;go_ret;exact⟨rfl,HB.out⟩
theorem KG (av:Option Addr) (gv cv:Nat) (hav:av=some ⟨gv,0,none⟩) (l1 args:List fi) (Oh:l1.length+args.length <=cv) (OS:cv <=maxLen):
  ∃dp,(∀wx,(Instr.slice 47 (.slice av (l1.length+args.length) cv) (some (.int .i64 (l1.length:Nat))) (some (.int .i64 ((l1.length:Int)+(args.length:Int)))) none).run prog wx= .ok (.slice dp args.length (cv - l1.length)) wx)/\
   ∀(w:World) (B:Nat),ei 52 2 fR w B (.slice av (l1.length+args.length) cv) (l1++args) ->eA 2 fR w (.slice dp args.length (cv - l1.length)) args:=by
 subst hav;by_cases q:0 < args.length
 ·refine⟨some ⟨gv,l1.length*2,none⟩,fun wx=>?_,fun _ _ h=>Ig h Oh OS⟩
  have:=Hz gv (l1.length+args.length) cv l1.length (l1.length+args.length) (by omega) Oh wx;rw [Nat.add_sub_cancel_left,Int.natCast_add]at this;exact this
 ·obtain rfl:args=[]:=aI (by omega)
  have hu:prog.underlying 47=some (.slice 52):=by kernel_rfl
  obtain⟨i0,hi,Po,Oi,O1⟩:=bS jB;simp only [aH,aJ]at Oh⊢;by_cases q2:cv=l1.length
  ·refine⟨some ⟨gv,0,none⟩,fun wx=>?_,fun _ _ _=>⟨_,_,rfl,bg _,by omega,fun i x hx=>by simp at hx⟩⟩
   simp [Instr.slice,aZ hu,Instr.sliceBounds,Instr.sliceBound,sizeOf,typeInfo,hi,asIntOf,q2,Addr.add]
  ·refine⟨some ⟨gv,l1.length*2,none⟩,fun wx=>?_,fun _ _ _=>⟨_,_,rfl,bg _,by omega,fun i x hx=>by simp at hx⟩⟩
   simp [Instr.slice,aZ hu,Instr.sliceBounds,Instr.sliceBound,sizeOf,typeInfo,hi,Oi,asIntOf,Oh,q2,Addr.add];omega
theorem EI (w:World) (FX:Nat ->Bool) (D X b g J cap:Nat) (iv:lg) (m:eI) (pre post:List Value) (t:TypeId) (uv:Value) (us:List (Value × Value)) (u:Value × Value) (l1 args:List fi) (lo:List fg) (f:fg) (asks:Int) (ty:gC) (fn:Int)
  (NH:fV w b pre post t ⟨uv, .slice (some ⟨g,0,none⟩) (lo.length+1) cap,us++[u]⟩ ⟨l1++args,lo++[f],asks⟩) (hd:kx w D X b pre.length g (lo.length*5) J) (N6:iM w FX X iv m)
  (himp:km m fn=true) (PJ:kq m fn ty) (hk:m.imports.length+m.funcs.length <=100000)
  (hpl:args.length=ty.params.length) (Ox:l1++args≠[]) (hrm:l1.length+ty.results.length <=1000) (hn:l1.length+args.length <=50000) (hpc1: -1 <=f.pc) (hpc2:f.pc <=1000000) (Nl:∀i,(⟨uv, .slice (some ⟨g,0,none⟩) (lo.length+1) cap,us++[u]⟩:qC).own b i ->FX i=false):
  Calls prog 56 #[.pointer (some ⟨D,0,none⟩), .int .i64 fn, .int .i64 0] w (gq b pre post t ⟨uv, .slice (some ⟨g,0,none⟩) (lo.length+1) cap,us++[u]⟩ (⟨2,0,fn,args⟩,⟨l1,lo++[{f with pc:=f.pc+1}],fn⟩) w):=by
 have NG:=(an w.heap.size w).alloc (ag _) (.cells #[.int .i64 0, .int .i64 0, .int .i64 0, .slice none 0 0] 49);have HX:=V (eS.new w #[.int .i64 0, .int .i64 0, .int .i64 0, .slice none 0 0] 49);have SS:=V NH;have Nn:=V (NH.below NG);have HD:=V (hd.below NG);have NF:=V (N6.below NG);have HT:=V (kt.et (v:=⟨uv, .slice (some ⟨g,0,none⟩) (lo.length+1) cap,us++[u]⟩) (b:=b) NG);have HB:=V NG;have QI:=V PJ;have N2:=NH.jE.lt;obtain⟨gv,cv,cur,Se,-,-,-,Oh,hcvm⟩:=NH.eu.open Ox;simp only [ah]at Se Oh;obtain⟨av,hav⟩:∃av:Option Addr,av=some ⟨gv,0,none⟩:=⟨_,rfl⟩;rw [<- hav]at Se;subst Se;have HOW:=V Nl;have HIMP:=V himp;have OS:=hcvm;unfold maxLen at OS;obtain⟨dp,hcut,hrows⟩:=KG av gv cv hav l1 args Oh hcvm;have HRW:=V hrows;have HPL:=V hpl;clear NH hd N6 NG himp PJ Ox hpl Nl hrows hav;go_enter func56,ntmps56;have d0:=HD.out.d0;go_wp2_with fail;generalize(w.alloc (.cells #[.int .i64 0, .int .i64 0, .int .i64 0, .slice none 0 0] 49))=w1 at HX Nn HD NF HT HB d0⊢;refine(nI w1 FX X iv m NF.out ty fn QI.out hk).mono ?_;rintro e w2 ⟨u1,u2,rfl,h1,h2,hb⟩;obtain⟨ap,cp,rfl,-,hcp⟩:=h1.sl;obtain⟨ar,cr,rfl,-,hcr⟩:=h2.sl;rw [<- HPL.out];replace HX:=V (HX.out.below hb HX.out.lt);replace Nn:=V (Nn.out.below hb);replace HD:=V (HD.out.below hb);replace NF:=V (NF.out.below hb);replace HT:=V (HT.out.below hb);replace HB:=V (HB.out.trans (hb.mono HB.out.size));clear h1 h2 hb d0;have NP:=(an w2.heap.size w2).alloc (ag _) (.cells #[.slice ap args.length cp, .slice ar ty.results.length cr] 69);have HY:=V (eS.new w2 #[.slice ap args.length cp, .slice ar ty.results.length cr] 69);replace HX:=V (HX.out.below NP HX.out.lt);replace Nn:=V (Nn.out.below NP);replace HD:=V (HD.out.below NP);replace NF:=V (NF.out.below NP);replace HT:=V (HT.out.below NP);have d0:=HD.out.d0;have d1:=HD.out.d1;have c0:World.cell? _ ⟨b,pre.length,none⟩=some (.slice av (l1.length+args.length) cv):=Nn.out.c0;have c1:World.cell? _ ⟨b,pre.length+1,none⟩=some (.slice (some ⟨g,0,none⟩) (lo.length+1) cap):=Nn.out.c1;have t0:=HY.out.two.1;clear NP;go_wp2_with fail;clear t0;refine(jw _ FX X iv m NF.out fn).mono ?_;rw [HIMP.out];rintro e w4 ⟨rfl,hb⟩;generalize hwx:w2.alloc (.cells #[.slice ap args.length cp, .slice ar ty.results.length cr] 69)=wx at hb HX Nn HD NF HT HY d0 d1 c0 c1;clear hwx;clear d0 d1 c0 c1;replace HX:=V (HX.out.below hb HX.out.lt);replace Nn:=V (Nn.out.below hb);replace HD:=V (HD.out.below hb);replace NF:=V (NF.out.below hb);replace HT:=V (HT.out.below hb);replace HY:=V (HY.out.below hb HY.out.lt);clear hb;have d0:=HD.out.d0;have d1:=HD.out.d1;have c0:w4.cell? ⟨b,pre.length,none⟩=some (.slice av (l1.length+args.length) cv):=Nn.out.c0;have c1:w4.cell? ⟨b,pre.length+1,none⟩=some (.slice (some ⟨g,0,none⟩) (lo.length+1) cap):=Nn.out.c1;have t1:=HY.out.two.2.1;have f1:decide ((1000:Int) < (l1.length:Int)+(ty.results.length:Int))=false:=aw (by omega);go_wp2_with fail;clear t1 f1;refine(jw _ FX X iv m NF.out fn).mono ?_;rw [HIMP.out];rintro e w5 ⟨rfl,hb⟩;generalize hwx:w4=wx at hb HX Nn HD NF HT HY d0 d1 c0 c1;clear hwx;clear d0 d1 c0 c1;replace HX:=V (HX.out.below hb HX.out.lt);replace Nn:=V (Nn.out.below hb);replace HD:=V (HD.out.below hb);replace NF:=V (NF.out.below hb);replace HT:=V (HT.out.below hb);replace HY:=V (HY.out.below hb HY.out.lt);clear hb;have d0:=HD.out.d0;have d1:=HD.out.d1;have c0:w5.cell? ⟨b,pre.length,none⟩=some (.slice av (l1.length+args.length) cv):=Nn.out.c0;have c1:w5.cell? ⟨b,pre.length+1,none⟩=some (.slice (some ⟨g,0,none⟩) (lo.length+1) cap):=Nn.out.c1;go_wp2_with fail;clear hcut;have S3:=V HX.out.lt;refine(lR _ args w5 (HRW.out _ _ Nn.out.eu) (by omega)).mono ?_;rintro e w6 ⟨va,rfl,ho,hb⟩;obtain⟨aa,ca,rfl,-,-⟩:=ho.slice;have HVA:=V ho;have HVN:=V (fun i (hg:eO (.slice aa args.length ca) i)=>show w5.heap.size <=i from(eM ho hg).1);have HVO:=V (fun i (hg:(⟨.slice av (l1.length+args.length) cv, .slice (some ⟨g,0,none⟩) (lo.length+1) cap,us++[u]⟩:qC).own b i)=>Nn.out.lt hg);clear d0 d1 c0 c1;replace HX:=V (HX.out.below hb HX.out.lt);replace Nn:=V (Nn.out.below hb);replace HD:=V (HD.out.below hb);replace NF:=V (NF.out.below hb);replace HT:=V (HT.out.below hb);clear hb ho;have d1:=HD.out.d1;have c0:w6.cell? ⟨b,pre.length,none⟩=some (.slice av (l1.length+args.length) cv):=Nn.out.c0;have OC:=fun wx=>vy av (l1.length+args.length) cv l1.length (by omega) wx;go_wp2_with fail;refine eY (fun w'=>w'.cell? ⟨D,1,none⟩=some (.pointer (some ⟨b,pre.length,none⟩))/\w'.cell? ⟨b,pre.length,none⟩=some (.slice av (l1.length+args.length) cv)) 15 (up 0 15 []) (by kernel_rfl) (by kernel_rfl) ⟨d1,c0⟩ ?_;clear d1 c0;replace HX:=V HX.out.drew;replace Nn:=V Nn.out.drew;replace HD:=V HD.out.drew;replace NF:=V (NF.out.below (an _ _).drew);replace HT:=V HT.out.drew;replace HVA:=V (HVA.out.below (an _ _).drew);generalize w6.drew=w7 at HX Nn HD NF HT HVA⊢;iterate 15 (first | (apply sk rfl rfl;simp only [pt]) | (apply eo rfl rfl rfl;·(rintro w' ⟨t0,t1⟩;go_wp2;exact⟨rfl,rfl,rfl⟩)))
 refine fJ rfl rfl ?_;have c0:w7.cell? ⟨b,pre.length,none⟩=some (.slice av (l1.length+args.length) cv):=Nn.out.c0;have z0:=Nn.out.jE.free pre.length;clear OC;go_wp2;refine⟨trivial,?_⟩;refine aA ?_;clear c0 z0;obtain⟨h1,h2⟩:=Nn.out.si (uv':= .slice av l1.length cv) (SR:=l1) (by have h:=ei.take fK Nn.out.eu l1.length (by simp);rwa [dt rfl]at h) (ep.refl _ _) (fun i hi=> .inl ((ei.same i).1 hi));have Sd:=Nn.out.not HX.out (by omega) (by decide);replace HX:=V (HX.out.keeps h2.1 Sd);replace HD:=V (HD.out.keeps h2.1 (HD.out.not Nn.out));have HOW2:=V (fun i hi=>(h2.2 i hi).elim (HOW.out i) (fun h=>by
  cases hf:FX i with
  | false=>rfl
  | true=>have:=NF.out.lt i hf;omega))
 replace NF:=V (NF.out.keeps h2.1 HOW.out);have HVX:Hid (∀i,eO (.slice aa args.length ca) i ->¬ (⟨.slice av l1.length cv, .slice (some ⟨g,0,none⟩) (lo.length+1) cap,us++[u]⟩:qC).own b i):=V (fun i hi h=>(h2.2 i h).elim (fun h=>by have:=HVN.out i hi;have:=HVO.out i h;omega) (fun h=>by have:=(eM HVA.out hi).2;omega));replace HVA:=V (HVA.out.keeps h2.1 (fun i hi h=>by have:=HVN.out i hi;have:=HVO.out i h;omega));replace HT:=V (HT.out.trans h2);replace Nn:=V h1;clear h1 h2 Sd;generalize w7.setCell ⟨b,pre.length,none⟩ (.slice av l1.length cv)=w8 at HX Nn HD NF HT HVA⊢;have p1:=Nn.out.cells.1.2.1;have z1:=Nn.out.cells.2.2.2.1 (lo.length*5+1);have d2:=HD.out.d2;obtain⟨h1,h2⟩:=Nn.out.IX {f with pc:=f.pc+1} 1 (x:= .int .i64 (f.pc+1)) (by decide) rfl rfl rfl;have Sd:=Nn.out.not HX.out (by omega) (by decide);replace HX:=V (HX.out.keeps h2.1 Sd);have QO:=V (HD.out.keeps h2.1 (HD.out.not Nn.out));have HOW3:=V (fun i hi=>(h2.2 i hi).elim (HOW2.out i) (fun h=>by
  cases hf:FX i with
  | false=>rfl
  | true=>have:=NF.out.lt i hf;omega))
 replace NF:=V (NF.out.keeps h2.1 HOW2.out);replace HVA:=V (HVA.out.keeps h2.1 (fun i hi h=>HVX.out i hi h));replace HT:=V (HT.out.trans h2);replace Nn:=V h1;clear h1 h2 Sd;have d0:=QO.out.d0;go_wp2_with fail;clear p1 z1 d2 HD;generalize w8.setCell ⟨g,lo.length*5+1,none⟩ (.int .i64 (f.pc+1))=w9 at HX Nn QO NF HT HVA d0⊢;refine(jw _ FX X iv m NF.out fn).mono ?_;rw [HIMP.out];rintro e w10 ⟨rfl,hb⟩;replace HX:=V (HX.out.below hb HX.out.lt);replace Nn:=V (Nn.out.below hb);replace HD:=V (QO.out.below hb);replace HT:=V (HT.out.below hb);replace HVA:=V (HVA.out.below hb);clear hb d0 QO NF;have d1:=HD.out.d1;have z2:=Nn.out.jE.free (pre.length+2);have c2:w10.cell? ⟨b,pre.length+2,none⟩=some (.int .i64 asks):=Nn.out.c2;obtain⟨h1,h2⟩:=Nn.out.zq fn;have Pt:=V (HX.out.keeps h2.1 (Nn.out.not HX.out (by omega) (by decide)));have HVA4:=V (HVA.out.keeps h2.1 (fun i hi h=>HVX.out i hi (by simpa using h)));have Sf:=V (HT.out.trans h2);have QZ:=V h1;clear h1 h2;obtain⟨⟨x0,x1,x2,x3⟩,v0,v1,v2,v3⟩:=Pt.out.four;go_wp2_with fail;refine aF (eH rfl _ _ rfl (ji Pt.out rfl 2 0 fn (.slice aa args.length ca))) rfl ?_;exact gq.mk (o:=⟨2,0,fn,args⟩) rfl QZ.out Sf.out (QZ.out.not Pt.out (by omega) (by decide)) (HVA4.out.lower (Nat.le_of_lt S3.out)) (fun g hg h=>HVX.out g hg h) (fun h=>by have:=HVN.out _ h;have:=S3.out;omega) _ _ _ rfl rfl rfl
section
theorem iD.KO (w:World) (F FX:Nat ->Bool) (X b:Nat) (iv:lg) (m:eI) (pre post:List Value) (t:TypeId) (l1 args:List fi) (lo:List fg) (fq:fg) (asks:Int) (k pc:Nat) (c:ij) (h:iD w F FX X b iv m pre post t ⟨l1++args,lo++[fq],asks⟩) (hc:m.eF[k]?=some c) (hf:fq.fn=((m.imports.length+k:Nat):Int)) (OT:m.imports.length+k <=100000) (Qk:fq.pc=(pc:Int)) (fn:Int) (hx:c.body[pc]?=some ⟨16,fn,0,[]⟩)
  (ty:gC) (himp:km m fn=true) (PJ:kq m fn ty) (hk:m.imports.length+m.funcs.length <=100000) (hpl:args.length=ty.params.length) (Ox:l1++args≠[]) (hrm:l1.length+ty.results.length <=1000) (hn:l1.length+args.length <=50000) (hp:pc <=1000000):
  Calls prog 28 #[.pointer (some ⟨X,0,none⟩), .pointer (some ⟨b,pre.length,none⟩)] w (px F FX X b iv m pre post t (⟨2,0,fn,args⟩,⟨l1,lo++[{fq with pc:=fq.pc+1}],fn⟩) w):=by
 obtain⟨uv,g,cap,us,u,h1,h2⟩:=h.shape;exact(uU w FX X b g cap iv m pre post t uv us u (l1++args) lo fq asks k c pc _ h1 h.inst hc hf OT (V h.inst.lt) Qk (.inr ⟨_,hx, .inr (.inr ⟨rfl,fun w' D J hs hd hi _=>
  EI w' FX D X b g J cap iv m pre post t uv us u l1 args lo fq asks ty fn hs hd hi himp PJ hk hpl Ox hrm hn (by omega) (by omega) (fun i hi=>h.fx i (h2 i hi))⟩)⟩)).mono (fun e w' he=>iD.end h2 h he)
def iN (l:List Int):Nat ->Int
 | 0=>0
 | i+1=>wrap32 (iN l i+wrap32 ((l[i]?).getD 0))
theorem JS (l:List Int):∀i,oS (iN l i)
 | 0=>by unfold oS iN;decide
 | i+1=>sD _
abbrev mL (K:Nat):eI:=fE [1] (jQ K)
def jR (pc:Nat):fg:=⟨2,(pc:Int),[],0,[]⟩
def sU (l:List Int):Nat ->fP
 | 0=>⟨[],[jR 0],-1⟩
 | k+1=>if k %2=0 then⟨[⟨1,iN l (k/2)⟩],[jR (2+4*(k/2))],-1⟩else⟨[⟨1,iN l (k/2)⟩,⟨1,wrap32 ((l[k/2]?).getD 0)⟩],[jR (4+4*(k/2))],-1⟩
theorem qM (l:List Int) (k:Nat):sU l (k+1)=if k %2=0 then⟨[⟨1,iN l (k/2)⟩],[jR (2+4*(k/2))],-1⟩else⟨[⟨1,iN l (k/2)⟩,⟨1,wrap32 ((l[k/2]?).getD 0)⟩],[jR (4+4*(k/2))],-1⟩:=rfl
theorem DW (pc:Nat):({jR pc with pc:=(jR pc).pc+1}:fg)=jR (pc+1):=rfl
theorem oI {K pc:Nat} {eu:List fi}:oh (mL K) ⟨eu,[jR pc],-1⟩:=by
 refine⟨eu,[],jR pc,-1,0,pc,⟨[],jQ K⟩,rfl,rfl,rfl,by show(2:Nat)+0 <=100000;decide,rfl,fun x hx=>?_⟩;rcases oC (aN hx)with rfl | ⟨i,-,rfl⟩ | rfl | rfl | rfl <;>(unfold qz;simp [jH])
section
variable {l:List Int} {K:Nat} (hK:K <=10)
include hK
omit hK in
theorem L8:je (mL K) ⟨[],[jR 0],-1⟩ (gz.more,⟨[⟨1,iN l 0⟩],[jR 1],-1⟩):=fun w F FX X b iv post h=>
 iD.const w F FX X b iv _ [.pointer (some ⟨X,0,none⟩)] post _ [] [] (jR 0) (-1) 0 0 ⟨[],jQ K⟩ h rfl rfl (by show(2:Nat)+0 <=100000;decide) rfl 0 rfl (by decide) (by decide)
theorem Mh {i:Nat} (hi:i < K):je (mL K) ⟨[⟨1,iN l i⟩,⟨1,wrap32 ((l[i]?).getD 0)⟩],[jR (4+4*i)],-1⟩ (gz.more,⟨[⟨1,iN l (i+1)⟩],[jR (5+4*i)],-1⟩):=fun w F FX X b iv post h=>by
 have hx:(jQ K)[4+4*i]?=some ⟨106,0,0,[]⟩:=by
  have:=uJ (j:=3) (x:=⟨106,0,0,[]⟩) hi rfl
  rwa [show 1+4*i+3=4+4*i by omega]at this
 have E:=iD.sum w F FX X b iv (mL K) [.pointer (some ⟨X,0,none⟩)] post _ [] [] (jR (4+4*i)) (-1) (iN l i) (wrap32 ((l[i]?).getD 0)) 0 (4+4*i) ⟨[],jQ K⟩ h rfl rfl (by show(2:Nat)+0 <=100000;decide) rfl hx (by decide) (by omega) (JS l i) (sD _);have hr:sc [] ⟨1,wrap32 (iN l i+wrap32 ((l[i]?).getD 0))⟩ 0 ⟨[]++[⟨1,iN l i⟩,⟨1,wrap32 ((l[i]?).getD 0)⟩],[]++[jR (4+4*i)],-1⟩ [] (jR (4+4*i))=(gz.more,⟨[⟨1,iN l (i+1)⟩],[jR (5+4*i)],-1⟩):=by
  unfold sc;rw [aE rfl];unfold kB;rw [az (by simp),show 5+4*i=4+4*i+1 by omega];rfl
 rw [hr]at E;exact E
theorem Mb {i:Nat} (hi:i < K):je (mL K) ⟨[⟨1,iN l i⟩],[jR (1+4*i)],-1⟩ (⟨2,0,1,[]⟩,⟨[⟨1,iN l i⟩],[jR (2+4*i)],1⟩):=fun w F FX X b iv post h=>by
 have hx:(jQ K)[1+4*i]?=some ⟨16,1,0,[]⟩:=uJ (j:=0) (x:=⟨16,1,0,[]⟩) hi rfl;have E:=iD.KO w F FX X b iv (mL K) [.pointer (some ⟨X,0,none⟩)] post _ [⟨1,iN l i⟩] [] [] (jR (1+4*i)) (-1) 0 (1+4*i) ⟨[],jQ K⟩ h rfl rfl (by show(2:Nat)+0 <=100000;decide) rfl 1 hx ⟨[],[]⟩ rfl (.inl ⟨1,1,_,rfl,rfl,rfl,rfl⟩) (by show(2:Nat)+2 <=100000;decide) rfl (by simp) (by simp) (by simp) (by omega);rw [DW,show 1+4*i+1=2+4*i by omega]at E;exact E
omit hK in
theorem LJ:je (mL K) ⟨[⟨1,iN l K⟩],[jR (1+4*K)],-1⟩ (⟨3,0,0,[⟨1,iN l K⟩]⟩,⟨[⟨1,iN l K⟩],[],-1⟩):=fun w F FX X b iv post h=>
 iD.ret w F FX X b iv (mL K) [.pointer (some ⟨X,0,none⟩)] post _ [] [⟨1,iN l K⟩] [] (jR (1+4*K)) (-1) 0 (1+4*K) ⟨[],jQ K⟩ ⟨[],[1]⟩ h rfl rfl (by show(2:Nat)+0 <=100000;decide) rfl (by rw [oG];omega) (.inr ⟨0,0,rfl,rfl,rfl⟩) (by show(2:Nat)+2 <=100000;decide) rfl (by simp) (by simp)
theorem L6 {i:Nat} (hi:i < K):je (mL K) ⟨[⟨1,iN l i⟩],[jR (2+4*i)],-1⟩ (gz.more,⟨[⟨1,iN l i⟩,⟨1,(i:Int)⟩],[jR (3+4*i)],-1⟩):=fun w F FX X b iv post h=>by
 have hx:(jQ K)[2+4*i]?=some ⟨65,(i:Int),0,[]⟩:=by
  have:=uJ (j:=1) (x:=jH i) hi rfl
  rwa [show 1+4*i+1=2+4*i by omega]at this
 have E:=iD.const w F FX X b iv (mL K) [.pointer (some ⟨X,0,none⟩)] post _ [⟨1,iN l i⟩] [] (jR (2+4*i)) (-1) 0 (2+4*i) ⟨[],jQ K⟩ h rfl rfl (by show(2:Nat)+0 <=100000;decide) rfl (i:Int) hx (by simp) (by omega);have hr:kB [⟨1,iN l i⟩] [⟨1,(i:Int)⟩] ⟨[⟨1,iN l i⟩],[]++[jR (2+4*i)],-1⟩ [] (jR (2+4*i))=(gz.more,⟨[⟨1,iN l i⟩,⟨1,(i:Int)⟩],[jR (3+4*i)],-1⟩):=by
  unfold kB;rw [az (by simp),show 3+4*i=2+4*i+1 by omega];rfl
 rw [hr]at E;exact E
theorem LF {i:Nat} (hi:i < K):je (mL K) ⟨[⟨1,iN l i⟩,⟨1,(i:Int)⟩],[jR (3+4*i)],-1⟩ (⟨2,0,0,[⟨1,(i:Int)⟩]⟩,⟨[⟨1,iN l i⟩],[jR (4+4*i)],0⟩):=fun w F FX X b iv post h=>by
 have hx:(jQ K)[3+4*i]?=some ⟨16,0,0,[]⟩:=by
  have:=uJ (j:=2) (x:=⟨16,0,0,[]⟩) hi rfl
  rwa [show 1+4*i+2=3+4*i by omega]at this
 have E:=iD.KO w F FX X b iv (mL K) [.pointer (some ⟨X,0,none⟩)] post _ [⟨1,iN l i⟩] [⟨1,(i:Int)⟩] [] (jR (3+4*i)) (-1) 0 (3+4*i) ⟨[],jQ K⟩ h rfl rfl (by show(2:Nat)+0 <=100000;decide) rfl 0 hx ⟨[1],[1]⟩ rfl (.inl ⟨0,2,_,rfl,rfl,rfl,rfl⟩) (by show(2:Nat)+2 <=100000;decide) rfl (by simp) (by simp) (by simp) (by omega);rw [DW,show 3+4*i+1=4+4*i by omega]at E;exact E
def Hp (l:List Int) (K k:Nat):Prop:=
 ∃s1 r,je (mL K) (sU l k) (gz.more,s1)/\je (mL K) s1 r/\oh (mL K) (sU l k)/\oh (mL K) s1/\
  ((k=2*K/\r.1=⟨3,0,0,[⟨1,iN l K⟩]⟩)\/∃(i:Nat) (ez:List fg),i < K/\((k=2*i/\r=(⟨2,0,1,[]⟩,⟨[⟨1,iN l i⟩],ez,1⟩)/\sU l (k+1)=⟨[⟨1,iN l i⟩],ez,-1⟩)\/
   (k=2*i+1/\r=(⟨2,0,0,[⟨1,(i:Int)⟩]⟩,⟨[⟨1,iN l i⟩],ez,0⟩)/\sU l (k+1)=⟨[⟨1,iN l i⟩]++[⟨1,wrap32 ((l[i]?).getD 0)⟩],ez,-1⟩)))
theorem zT {k i:Nat} (hi:i <=K) (hk:k=2*i) (h0:je (mL K) (sU l k) (gz.more,⟨[⟨1,iN l i⟩],[jR (1+4*i)],-1⟩)) (hc:oh (mL K) (sU l k)):Hp l K k:=by
 by_cases q:i < K
 ·refine⟨_,_,h0,Mb hK q,hc,oI, .inr ⟨i,_,q, .inl ⟨hk,rfl,?_⟩⟩⟩
  subst hk;rw [qM,aE (by omega),show 2*i/2=i by omega]
 ·obtain rfl:i=K:=by omega
  exact⟨_,_,h0,LJ,hc,oI, .inl ⟨hk,rfl⟩⟩
theorem Lq {k:Nat} (hk:k <=2*K):Hp l K k:=by
 match k,hk with
 | 0,_=>exact zT hK (i:=0) (bg _) rfl L8 oI
 | k+1,hk=>
  by_cases q:k %2=0
  ·obtain⟨i,rfl⟩:∃i,k=2*i:=⟨k/2,by omega⟩
   have hs:sU l (2*i+1)=⟨[⟨1,iN l i⟩],[jR (2+4*i)],-1⟩:=by
    rw [qM,aE q,show 2*i/2=i by omega]
   unfold Hp;rw [hs];refine⟨_,_,L6 hK (by omega),LF hK (by omega),oI,oI, .inr ⟨i,_,by omega, .inr ⟨rfl,rfl,?_⟩⟩⟩;show sU l (2*i+1+1)=_;rw [qM,az (by omega),show(2*i+1)/2=i by omega];rfl
  ·obtain⟨i,rfl⟩:∃i,k=2*i+1:=⟨k/2,by omega⟩
   have hs:sU l (2*i+1+1)=⟨[⟨1,iN l i⟩,⟨1,wrap32 ((l[i]?).getD 0)⟩],[jR (4+4*i)],-1⟩:=by
    rw [qM,az q,show(2*i+1)/2=i by omega]
   refine zT hK (i:=i+1) (by omega) (by omega) ?_ (by rw [hs];exact oI);rw [hs,show 1+4*(i+1)=5+4*i by omega];exact Mh hK (by omega)
end
end
def qx (W B:Nat):List Obj:=[Obj.cells ((pC B).cells (jq [])) 35,Obj.cells #[.slice none 0 0,rowAt (W+2) 1 1] 69,Obj.cells #[.int .i64 1] 3,Obj.cells #[.int .i64 1] 3,Obj.cells #[.int .i64 1] 3,Obj.cells #[.int .i64 2, .int .i64 1] 3,Obj.cells #[.int .i64 2] 3,
 Obj.cells #[.slice none 0 0,rowAt (W+2) 1 1, .slice none 0 0, .slice none 0 0,rowAt (B+2) 1 1,rowAt (B+3) 1 1,rowAt (B+4) 2 2,rowAt (B+5) 1 1] 69,
 Obj.cells #[.string (ud [119]), .string (ud [102]), .int .i64 2, .string (ud [119]), .string (ud [103]), .int .i64 1] 71,Obj.cells #[.int .i64 0, .int .i64 3] 3,
 Obj.cells #[.bool true, .int .i64 1, .int .i64 0, .bool false, .int .i64 2, .int .i64 5] 73,Obj.cells #[.string (ud [109,97,105,110]), .int .i64 2] 75,
 Obj.cells #[.int .i64 0, .int .i64 2, .int .i64 3] 3,Obj.cells #[.int .i64 0,rowAt (B+11) 3 3] 77,
 Obj.cells #[.int .i64 32, .int .i64 0, .int .i64 0, .slice none 0 0] 39,Obj.cells #[.slice none 0 0, .slice none 0 0, .slice none 0 0,rowAt (B+13) 1 1] 41]
def Is (w:World) (e:Ending) (w':World):Prop:=
 e= .returned (.agg ((pC (w.heap.size+1)).cells (jq [])))/\lW w' (w.heap.size+1) (rowAt (w.heap.size+2) 1 1) (.slice none 0 0)/\eS w' (w.heap.size+2) #[.int .i64 1] 3/\Below w.heap.size w w'/\w'.heap.size=w.heap.size+16
theorem zG (w:World):Calls prog 6 #[.slice none 0 0, .int .i64 1] w (Is w):=by
 go_enter func6,ntmps6;go_wp2_with fail;refine cQ 1 ?_;rw [cg];go_wp2_with fail;have H:=mZ w (qx w.heap.size (w.heap.size+1));have G:=rU w (qx w.heap.size (w.heap.size+1));have g:eS (nW w (qx w.heap.size (w.heap.size+1))) w.heap.size ((pC (w.heap.size+1)).cells (jq [])) 35:=G 0 _ _ rfl;have HS:lW (nW w (qx w.heap.size (w.heap.size+1))) (w.heap.size+1) (rowAt (w.heap.size+2) 1 1) (.slice none 0 0):=by
  refine⟨⟨?_,?_,?_,?_,?_⟩,⟨?_,?_,?_,?_⟩,⟨?_,?_⟩,?_,?_⟩ <;>rw [Nat.add_assoc]
  ·exact G 3 _ _ rfl
  ·exact G 4 _ _ rfl
  ·exact G 5 _ _ rfl
  ·exact G 6 _ _ rfl
  ·exact G 7 _ _ rfl
  ·exact G 8 _ _ rfl
  ·exact G 9 _ _ rfl
  ·exact G 10 _ _ rfl
  ·exact G 11 _ _ rfl
  ·exact G 12 _ _ rfl
  ·exact G 13 _ _ rfl
  ·exact G 14 _ _ rfl
  ·exact G 15 _ _ rfl
 refine aF (eH rfl _ _ rfl g.mh) rfl ?_;exact⟨rfl,HS,G 2 _ _ rfl,H.1,H.2⟩
def qp (x:fa):List Value:=[.int .i64 x.op, .int .i64 x.a, .int .i64 x.b, .slice none 0 0]
theorem sI (x:fa):(qp x).length=4:=rfl
theorem AV (x:fa):∀u∈qp x,u.oneCell'=true:=by
 intro u hu;simp only [qp,bx,bI,cH]at hu;rcases hu with rfl | rfl | rfl | rfl <;>rfl
theorem G9 {w:World} {v:Value} {l:List fa} (h:eA 4 qp w v l) (hl:rp l):gN w v l:=by
 refine⟨l.map fun _=> .slice none 0 0,by simp,?_,sv w l hl⟩;have hz:(l.zip (l.map fun _=>Value.slice none 0 0)).length=l.length:=by simp
 obtain⟨a,cap,h1,h2,h3,h4⟩:=h;refine⟨a,cap,by rw [hz];exact h1,by rw [hz];exact h2,h3,fun i x hx=>?_⟩;obtain⟨hx1,Qs⟩:=cI.1 hx;rw [cC,hx1]at Qs;injection Qs with Qs;obtain⟨b,off,e1,e2,e3⟩:=h4 i x.1 hx1;refine⟨b,off,e1,e2,fun j u hu=>e3 j u ?_⟩;rw [<- hu];show(qp x.1)[j]?=(qO x)[j]?;unfold qO qp;rw [<- Qs]
def BJ (l:List fa) (w0 w:World) (v:Value):Prop:=ei 39 4 qp w w0.heap.size v l/\Below w0.heap.size w0 w
theorem yX {ops:Array Oper} {rest:List Oper} {o:Oper} {a:Act} {Q:Exit ->Act ->World ->Prop} (w0 w:World) (P0:o.guard=none) (s x:Operand)
  (ho:o.op= .call {callee:= .builtin .append,args:=#[s,x],argTypes:=#[37,37]}) (v:Value) (l:List fa) (hs:a.eval s=v) (hJ:BJ l w0 w v) (y:fa) (cs:Array Value) (Ro:cs=(qp y).toArray) (hx:a.eval x= .slice (some ⟨w.heap.size,0,none⟩) 1 1) (hl:l.length <=1000)
  (h:∀av cv w',BJ (l++[y]) w0 w' (.slice av (l.length+1) cv) ->wpList prog ops Q rest (a.put o.dst (.slice av (l.length+1) cv)) w'):
  wpList prog ops Q (o::rest) a (w.alloc (.cells cs 39)):=by
 refine fw w P0 s x 37 ho _ 48 (by kernel_rfl) nK rfl (by decide) (by decide) w0.heap.size v l hs hJ.1 y cs Ro rfl (AV _) hx (by omega) hJ.2.size ?_;intro v' w' h1 h2 _;obtain⟨av,cv,hv,-,-⟩:=h1.slice;rw [ah,aB]at hv;subst hv;exact h av cv w' ⟨h1,hJ.2.trans (h2.below hJ.2.size (fun g hg=>(eM hJ.1 hg).1))⟩
theorem Iv (w:World) (l:List fa) (n:Nat) (hn:l.length=n) (h1:n <=1000):eA 4 qp (w.alloc (.cells (l.flatMap qp).toArray 39)) (.slice (some ⟨w.heap.size,0,none⟩) n n) l:=by
 subst hn;have hx:=eS.new w (l.flatMap qp).toArray 39;have hl:(l.flatMap qp).length=l.length*4:=by
  induction l with
  | nil=>rfl
  | cons x l ih=>
   rw [bK,ah,sI,ih (by simp only [aD]at h1;omega) (eS.new _ _ _),aD];omega
 have ho:ei 39 4 qp (w.alloc (.cells (l.flatMap qp).toArray 39)) w.heap.size (.slice (some ⟨w.heap.size,0,none⟩) l.length l.length) l:=
  ⟨by rw [hl], .inr ⟨w.heap.size,l.length,_,rfl,ag _,hx,ag _,by simp only [maxLen];omega,by simp [hl],by simp;exact cW (dm hl)⟩⟩
 exact ho.fT sI
theorem xu {ops:Array Oper} {rest:List Oper} {o:Oper} {a:Act} {Q:Exit ->Act ->World ->Prop} (w0 w:World) (P0:o.guard=none) (s x:Operand)
  (ho:o.op= .call {callee:= .builtin .append,args:=#[s,x],argTypes:=#[37,37]}) (v:Value) (l:List fa) (hs:a.eval s=v) (hJ:BJ l w0 w v) (m:List fa) (cs:Array Value) (Ro:cs=(m.flatMap qp).toArray) (n:Nat) (hm:m.length=n) (hx:a.eval x= .slice (some ⟨w.heap.size,0,none⟩) n n) (hl:l.length+n <=1000)
  (h:∀av cv w',BJ (l++m) w0 w' (.slice av (l.length+n) cv) ->wpList prog ops Q rest (a.put o.dst (.slice av (l.length+n) cv)) w'):
  wpList prog ops Q (o::rest) a (w.alloc (.cells cs 39)):=by
 subst Ro;have hb:=(an w.heap.size w).alloc (ag _) (.cells (m.flatMap qp).toArray 39);have No:=hJ.2.trans (hb.mono hJ.2.size);have hJ1:=hJ.1.below hb;refine sG _ P0 s x 37 ho _ 48 (by kernel_rfl) nK rfl (by decide) (by decide) w0.heap.size v l hs hJ1 sI _ m hx (Iv w m n hm (by omega)) (fun y _=>AV y) (by omega) No.size ?_;intro v' w' h1 h2 _;obtain⟨av,cv,hv,-,-⟩:=h1.slice;rw [ah,hm]at hv;subst hv;exact h av cv w' ⟨h1,No.trans (h2.below No.size (fun g hg=>(eM hJ1 hg).1))⟩
theorem xi {ops:Array Oper} {rest:List Oper} {o:Oper} {a:Act} {Q:Exit ->Act ->World ->Prop} (w0 w:World) (P0:o.guard=none) (s x:Operand)
  (ho:o.op= .call {callee:= .builtin .append,args:=#[s,x],argTypes:=#[37,37]}) (v:Value) (l:List fa) (hs:a.eval s=v) (hJ:BJ l w0 w v) (y:fa) (cs:Array Value) (Ro:cs=(qp y).toArray) (n:Nat) (hn:n=w.heap.size) (hx:a.eval x= .slice (some ⟨n,0,none⟩) 1 1) (hl:l.length <=1000)
  (h:∀av cv w',BJ (l++[y]) w0 w' (.slice av (l.length+1) cv) ->wpList prog ops Q rest (a.put o.dst (.slice av (l.length+1) cv)) w'):
  wpList prog ops Q (o::rest) a (w.alloc (.cells cs 39)):=by
 subst hn;exact yX w0 w P0 s x ho v l hs hJ y cs Ro hx hl h
structure L5 (w0:World) (l:List Int) (K X b:Nat) (FX:Nat ->Bool) (iv:lg) (w:World) (k:Nat) (sm:Int):Prop where
 le:k <=2*K
 zj:∃F mk,jb w F FX X b iv (mL K) ⟨gz.more,2*k,k,mk⟩ (sU l k)/\∀i,F i=false ->w0.heap.size <=i
 below:Below w0.heap.size w0 w
 sum:wrap32 sm=iN l (k/2)
structure MO (w0:World) (l:List Int) (K X b:Nat) (FX:Nat ->Bool) (iv:lg) (w:World) (sm:Int):Prop where
 zj:∃F q s,jb w F FX X b iv (mL K) q s/\q.o=⟨3,0,0,[⟨1,iN l K⟩]⟩/\q.calls=((2*K:Nat):Int)
 below:Below w0.heap.size w0 w
 sum:wrap32 sm=iN l K
theorem Ix (a b:Int):wrap32 (wrap64 (a+b))=wrap32 (wrap32 a+wrap32 b):=by
 unfold wrap32 wrap64;omega
theorem yU (l:List Int) (w:World) (va:Value) (ha:eA 1 fk w va l):Calls prog 3 #[va] w (jM w):=by
 obtain⟨aa,ca,rfl,hca,hcam⟩:=ha.sl;have HA:=V ha;clear ha;go_enter func3,ntmps3;go_wp2_with fail;refine(B8 w).mono ?_;rintro x WS0 ⟨rfl,hb⟩;have HB:=V hb;clear hb;go_wp2_with fail;refine(zG _).mono ?_;rintro x w1 ⟨rfl,hs,hr,hb,hz⟩;obtain⟨B,hB⟩:∃B,B=WS0.heap.size+1:=⟨_,rfl⟩;rw [<- hB]at hs⊢;have HN:=V (show w1.heap.size=B+15 by omega);have OU:=V (show eS w1 (B+1) #[.int .i64 1] 3 by rw [hB,Nat.add_assoc];exact hr);replace hs:lW w1 B (rowAt (B+1) 1 1) (.slice none 0 0):=by rw [hB,Nat.add_assoc];rw [hB]at hs;exact hs
 have HWB:=V (show w.heap.size <=B by have:=HB.out.size;omega);replace HB:=V (ej HB.out hb);clear hz hB hb hr;have HX:=V (eS.new w1 ((pC B).cells (jq [])) 35);have hb:=(an w1.heap.size w1).alloc (ag _) (.cells ((pC B).cells (jq [])) 35);have HS:=V (hs.below hb);replace OU:=V (OU.out.below hb OU.out.lt);replace HB:=V (ej HB.out hb);clear hb hs;simp only [eT.cells,pC,jq,fE,rowAt]at HX HS HB OU⊢;have HMS:=V (show B+15 <=w1.heap.size by have:=HN.out;omega);obtain⟨M,hM⟩:∃M,M=w1.heap.size:=⟨_,rfl⟩;rw [<- hM]at HX;go_wp2_with (first | (at_builtin;refine xi (w1.alloc _) (w1.alloc _) rfl _ _ rfl _ _ rfl ⟨ei.nil _ _,an _ _⟩ (jH 0) _ rfl _ (aC _ _).symm rfl (by decide) ?_));intro av0 cv0 w2 Sp;have HJ0:=V (show BJ (jQ 0) _ w2 _ from Sp);obtain⟨WM,hWM⟩:∃WM,WM=w1.alloc (.cells #[.slice (some ⟨B+6,0,none⟩) 4 4, .slice (some ⟨B+7,0,none⟩) 2 2, .slice (some ⟨B+8,0,none⟩) 2 2, .bool true, .int .i64 4, .int .i64 (-1), .bool true, .int .i64 1, .int .i64 3, .slice (some ⟨B+9,0,none⟩) 2 2, .slice (some ⟨B+10,0,none⟩) 1 1, .slice (some ⟨B+12,0,none⟩) 1 1, .slice (some ⟨B+14,0,none⟩) 2 2, .slice none 0 0] 35):=⟨_,rfl⟩;rw [<- hWM]at HX HS HB OU HJ0;have HMW:=V (show B+15 <=M/\M < WM.heap.size by rw [hWM,aC,hM];exact⟨HMS.out,Nat.lt_succ_self _⟩);obtain⟨K,hK⟩:∃K,K=min l.length 10:=⟨_,rfl⟩;have hK10:K <=10:=by omega
 have HK:=V hK;clear Sp hWM HMS HN hK;go_wp2_with fail;rw [<- hM];clear hM;refine xM (fun a' w'=>∃(i:Nat) (x:Value),a'=fr (.slice aa l.length ca::gs a' 1 3 (.pointer (some ⟨M,0,none⟩)::x:: .int .i64 i::gs a' 7 149 []))/\i <=K/\BJ (jQ i) WM w' x) (fun a' _=>(K - (intOf (a'.tmps.getD 6 undef)).toNat))
  (fun a' w'=>∃(x:Value),a'=fr (.slice aa l.length ca::gs a' 1 3 (.pointer (some ⟨M,0,none⟩)::x::gs a' 6 150 []))/\BJ (jQ K) WM w' x) ?_ ?_ ?_
 ·exact⟨0,_,rfl,bg _,HJ0.out⟩
 ·skip
  rintro R Y a' w1 ⟨i,x,Nm,hJ⟩ HR HY;dsimp only [fr,gs]at Nm;generalize slot a'=f at Nm;subst Nm;obtain⟨hi,hB⟩:=hJ;have HBJ:=V hB;by_cases q:i < K;rotate_left
  ·obtain rfl:i=K:=by omega
   clear hB;by_cases q1:i < l.length
   ·have f1:decide ((i:Int) < (l.length:Int))=true:=ay (by omega)
    have f2:decide ((i:Int) < 10)=false:=aw (by have:=HK.out;omega);go_wp2_with fail;exact HY.out _ _ ⟨x,rfl,HBJ.out⟩
   ·have f1:decide ((i:Int) < (l.length:Int))=false:=aw (by omega)
    go_wp2_with fail;exact HY.out _ _ ⟨x,rfl,HBJ.out⟩
  have S1:i < l.length:=by have:=HK.out;omega
  have hl2:i < 10:=by omega
  have f1:decide ((i:Int) < (l.length:Int))=true:=ay (by omega);have f2:decide ((i:Int) < 10)=true:=ay (by omega);obtain⟨av,cv,Om,-,-⟩:=hB.1.slice;subst Om;clear hB;go_wp2_with (first | (at_builtin;refine xu WM w1 rfl _ _ rfl _ _ rfl HBJ.out (yO i) _ rfl 4 rfl rfl (by rw [oG];omega) ?_));intro SY cv2 w2 Sp;have NQ:=V (show BJ (jQ (i+1)) WM w2 _ by rw [td];exact Sp);clear Sp f1 f2;go_wp2;refine HR.out _ _ ⟨i+1,_,rfl,by omega,NQ.out⟩ ?_;simp [intOf];omega
 ·skip
  rintro a' w1 ⟨x,Nm,hJ⟩;dsimp only [fr,gs]at Nm;generalize slot a'=f at Nm;subst Nm;have HJ:=V hJ;obtain⟨av,cv,Om,-,-⟩:=hJ.1.slice;subst Om;replace HX:=V (HX.out.below hJ.2 HX.out.lt);replace HS:=V (HS.out.below hJ.2);replace OU:=V (OU.out.below hJ.2 OU.out.lt);replace HB:=V (ej HB.out hJ.2);clear hJ HJ0;have c1:=HX.out.cell 12;have c2:=HS.out.2.2.2.2.cell 1;have z1:=HS.out.2.2.2.2.free 1;have hx:=HX.out.other ⟨B+14,1,none⟩ (.slice av (jQ K).length cv) (by have:=HMW.out;simp;omega);obtain⟨g0,g1,g2,g3,g4,g5,g6,g7,g8,g9,NT,NY,NZ,N0⟩:=hx.mod;clear hx;go_wp2_with fail;clear c1 c2 z1 g0 g1 g2 g3 g4 g5 g6 g7 g8 g9 NT NY NZ N0;have Ss:=V (G9 ((HJ.out.1.keeps (eE w1 (B+14) 1 (.slice av (jQ K).length cv)) (fun g hg e=>by have:=(eM HJ.out.1 hg).1;have:=HMW.out;omega)).fT sI) (Bx hK10));have HI:=V ((HS.out.setBody (.slice av (jQ K).length cv)).is ((OU.out.other ⟨B+14,1,none⟩ (.slice av (jQ K).length cv) (by simp)).rws wV [1] [] rfl 1 (ag _) (by decide)) (by simp [gC.ok,iV]) Ss.out);replace HB:=V (HB.out.setCell (p:=⟨B+14,1,none⟩) (by have:=HWB.out;simp;omega) (.slice av (jQ K).length cv));clear HJ HX HS OU Ss HMW;refine(AD (mL K) (pC B) _ CW HI.out (vz _ _) (CO _ EF) (by show(2:Nat)+2 <=1000000;omega) rfl (CF hK10) (wH _ _)).mono ?_;rintro x w5 ⟨X,b,F,FX,iv,rfl,hm,hF,hb⟩;have P6:=V (fun i hi=>aQ HB.out.size (hF i hi));replace HB:=V (ej HB.out hb);have HM:=V hm;clear hm hF hb HI;go_wp2_with fail;refine(yw w5 F FX X b iv (mL K) _ _ HM.out _ _ [] 0 ⟨[],jQ K⟩ ⟨[],[1]⟩ 2 rfl (fun w2 _=>⟨eA.nil _,eA.nil _⟩) (HM.out.inst.Ca rfl) (.inr ⟨0,0,rfl,rfl,rfl⟩) (.inl ⟨rfl,rfl,by simp⟩) rfl rfl (by show(2:Nat)+2 <=100000;decide) (by decide) (by simp) (by simp)).mono ?_;rintro x w6 ⟨rfl,hm,hk⟩;rw [show mO (([]:List Int)++[]) ⟨[],[],-1⟩ 2 []=(gz.more,sU l 0)from rfl]at hm;replace HM:=V hm;replace HB:=V (HB.out.trans (hk.below HB.out.size P6.out));clear hm hk;go_wp2_with fail;have HJ0:=V (show L5 w l K X b FX iv w6 0 0 from⟨bg _,⟨F,(0,0),HM.out,P6.out⟩,HB.out,(by show wrap32 0=0;decide+kernel)⟩);clear HM P6 HB HWB;refine xM (fun a' w'=>∃(k:Nat) (sm:Int),a'=fr (.slice aa l.length ca::gs a' 1 6 (.pointer (some ⟨b,0,none⟩)::gs a' 8 1 (.int .i64 sm:: .int .i64 k:: .int .i64 k::gs a' 12 144 [])))/\L5 w l K X b FX iv w' k sm) (fun a' _=>(2*K+1 - (intOf (a'.tmps.getD 11 undef)).toNat))
   (fun a' w'=>∃(sm:Int),a'=fr (.slice aa l.length ca::gs a' 1 6 (.pointer (some ⟨b,0,none⟩)::gs a' 8 1 (.int .i64 sm:: .int .i64 ((2*K:Nat):Int)::gs a' 11 145 [])))/\MO w l K X b FX iv w' sm) ?_ ?_ ?_
  ·exact⟨0,0,rfl,HJ0.out⟩
  ·skip
   clear HJ0;rintro R Y a' w1 ⟨k,sm,Nm,hJ⟩ HR HY;dsimp only [fr,gs]at Nm;generalize slot a'=f at Nm;subst Nm;obtain⟨hk,⟨F,mk,hm,hF⟩,hB,hs⟩:=hJ;have HM:=V hm;have P6:=V hF;have HB:=V hB;have TJ:=V hs;obtain⟨s1,r,h1,h2,c1,c2,QB⟩:=Lq (l:=l) hK10 hk;have HE:=V (show r.1.kind≠1/\r.1.eu.length <=1000 by
    rcases QB with⟨-,hr⟩ | ⟨i,ez,-,⟨-,hr,-⟩ | ⟨-,hr,-⟩⟩
    ·rw [hr];simp
    ·rw [hr];simp
    ·rw [hr];simp)
   have H1:=V (And.intro h1 (And.intro h2 (And.intro c1 c2)));have HCS:=V QB;have hk30:k < 30:=by omega
   have f0:decide ((k:Int) < 30)=true:=ay (by omega);clear hm hF hB hs h1 h2 c1 c2 QB;go_wp2_with fail;clear f0;refine(zz w1 F FX X b iv (mL K) _ (sU l k) s1 r 1000 HM.out rfl (by decide) (by show 2*(k:Int)+2 <=1000;omega) (.inr HE.out.1) HE.out.2 H1.out.1 H1.out.2.1 H1.out.2.2.1 H1.out.2.2.2).mono ?_;rintro x w2 ⟨vv,F2,rfl,OY,hm,hF2,hkp⟩;replace HB:=V (HB.out.trans (hkp.below HB.out.size P6.out));replace P6:=V (fun i hi=>P6.out i (hF2 i hi));clear hF2 hkp H1 HE HM;rcases HCS.out with⟨Nw,hr⟩ | ⟨i,ez,hi,⟨Nw,hr,hw⟩ | ⟨Nw,hr,hw⟩⟩
   ·obtain⟨o,s2⟩:=r
    simp only at hr hm OY;subst hr Nw;obtain⟨a1,c1,rfl,-,-⟩:=OY.slice;have hb:=(an w2.heap.size w2).alloc (ag _) (.cells #[.int .i64 3, .int .i64 0, .int .i64 0, .slice a1 1 c1] 49);have HM:=V (hm.below hb);replace HB:=V (ej HB.out hb);clear hb hm OY HCS;simp only [lq,aD,aH];go_wp2_with fail;have PH:=TJ.out;rw [show 2*K/2=K by omega]at PH;exact HY.out _ _ ⟨sm,rfl,⟨⟨F2,_,_,HM.out,rfl,rfl⟩,HB.out,PH⟩⟩
   ·obtain⟨o,s2⟩:=r
    simp only [eg]at hr hm OY;obtain⟨rfl,rfl⟩:=hr;have OX:=V Nw;have HW:=V hw;have hil:i < l.length:=by have:=HK.out;omega
    obtain⟨x,hx⟩:∃x,l[i]?=some x:=⟨_,aq hil⟩;have HX:=V hx;obtain⟨ba,oa,ca',he,-,-,Nu,NA⟩:=eA.at (HA.out.below HB.out) hx;injection he with e1 _ e2;subst e1 e2;have xc:w2.cell? ⟨ba,oa+i,none⟩=some (.int .i64 x):=by
     have:=NA 0 _ rfl
     rwa [aW,aJ]at this
    have t1:(k:Int).tmod 2=0:=by rw [cX (by omega)];omega
    have t2:(k:Int).tdiv 2=(i:Int):=by rw [Int.tdiv_eq_ediv_of_nonneg (by omega)];omega
    obtain⟨a1,c1,rfl,-,-⟩:=OY.slice;clear NA hx Nw hw HCS;have hb:=(an w2.heap.size w2).alloc (ag _) (.cells #[.int .i64 2, .int .i64 0, .int .i64 1, .slice a1 0 c1] 49);have HM:=V (hm.below hb);replace HB:=V (ej HB.out hb);have x0:=(hb.cell (p:=⟨ba,oa+i,none⟩) Nu).trans xc;clear hb hm OY xc Nu;simp only [lq,aH];go_wp2_with fail;clear x0 t1 t2;refine(tB _ F2 FX X b iv (mL K) _ [⟨1,iN l i⟩] ez 1 x ⟨[],[]⟩ HM.out rfl rfl (by decide) (.inl ⟨1,1,_,rfl,rfl,rfl,rfl⟩) (by show(2:Nat)+2 <=100000;decide) (.inl rfl) (by simp) (by show(k:Int) <=1000;omega)).mono ?_;rintro y w4 ⟨rfl,⟨mk2,hm⟩,hkp⟩;replace HB:=V (HB.out.trans (hkp.below HB.out.size P6.out));replace HM:=V hm;clear hm hkp;go_wp2;refine HR.out _ _ ⟨k+1,sm,rfl,⟨by have:=OX.out;omega,⟨F2,mk2,?_,P6.out⟩,HB.out,?_⟩⟩ ?_
    ·rw [HW.out]
     rw [show 2*((k+1:Nat):Int)=2*(k:Int)+2 by omega,show((k+1:Nat):Int)=(k:Int)+1 by omega];exact HM.out
    ·rw [TJ.out,show(k+1)/2=k/2 by have:=OX.out;omega]
    ·simp [intOf]
     omega
   ·obtain⟨o,s2⟩:=r
    simp only [eg]at hr hm OY;obtain⟨rfl,rfl⟩:=hr;have OX:=V Nw;have HW:=V hw;have hil:i < l.length:=by have:=HK.out;omega
    obtain⟨x,hx⟩:∃x,l[i]?=some x:=⟨_,aq hil⟩;have HX:=V hx;obtain⟨ba,oa,ca',he,-,-,Nu,NA⟩:=eA.at (HA.out.below HB.out) hx;injection he with e1 _ e2;subst e1 e2;have xc:w2.cell? ⟨ba,oa+i,none⟩=some (.int .i64 x):=by
     have:=NA 0 _ rfl
     rwa [aW,aJ]at this
    have t1:(k:Int).tmod 2=1:=by rw [cX (by omega)];omega
    have t2:(k:Int).tdiv 2=(i:Int):=by rw [Int.tdiv_eq_ediv_of_nonneg (by omega)];omega
    obtain⟨a1,c1,rfl,-,-⟩:=OY.slice;clear NA hx Nw hw HCS;obtain⟨bv,ov,cv,he,Oh,hcvm,hltv,NS⟩:=eA.at (OY.fT fK) (i:=0) (x:=⟨1,(i:Int)⟩) rfl;injection he with e1 _ e2;subst e1 e2;have hb:=(an w2.heap.size w2).alloc (ag _) (.cells #[.int .i64 2, .int .i64 0, .int .i64 0, .slice (some ⟨bv,ov,none⟩) 1 c1] 49);have HM:=V (hm.below hb);replace HB:=V (ej HB.out hb);have x0:=(hb.cell (p:=⟨ba,oa+i,none⟩) Nu).trans xc;have v1:=(hb.cell (p:=⟨bv,ov+1,none⟩) hltv).trans (NS 1 _ rfl);have hcv1:1 <=c1:=Oh;have f1:((i:Int) !=(i:Int))=false:=kT rfl;clear hb hm OY xc Nu NS hltv Oh;simp only [lq,aD,aH];go_wp2_with fail;clear x0 t1 t2 v1 f1;refine(tB _ F2 FX X b iv (mL K) _ [⟨1,iN l i⟩] ez 0 x ⟨[1],[1]⟩ HM.out rfl rfl (by decide) (.inl ⟨0,2,_,rfl,rfl,rfl,rfl⟩) (by show(2:Nat)+2 <=100000;decide) (.inr rfl) (by simp) (by show(k:Int) <=1000;omega)).mono ?_;rintro y w4 ⟨rfl,⟨mk2,hm⟩,hkp⟩;replace HB:=V (HB.out.trans (hkp.below HB.out.size P6.out));replace HM:=V hm;clear hm hkp;go_wp2;refine HR.out _ _ ⟨k+1,wrap64 (sm+x),rfl,⟨by have:=OX.out;omega,⟨F2,mk2,?_,P6.out⟩,HB.out,?_⟩⟩ ?_
    ·rw [HW.out,HX.out]
     rw [show 2*((k+1:Nat):Int)=2*(k:Int)+2 by omega,show((k+1:Nat):Int)=(k:Int)+1 by omega];exact HM.out
    ·have h:=TJ.out
     rw [show k/2=i by have:=OX.out;omega]at h;rw [Ix,h,show(k+1)/2=i+1 by have:=OX.out;omega,iN,HX.out];rfl
    ·simp [intOf]
     omega
  ·skip
   rintro a' w1 ⟨sm,Nm,hJ⟩;dsimp only [fr,gs]at Nm;generalize slot a'=f at Nm;subst Nm;obtain⟨⟨F,q,s,hm,ho,hc⟩,hB,hs⟩:=hJ;have HM:=V hm;have HB:=V hB;have TJ:=V hs;have HC:=V hc;have HO:=V ho;clear hm hB hs hc ho;go_wp2_with fail;refine(rX HM.out).mono ?_;rintro y w2 ⟨vv,rfl,OY,hb⟩;rw [HO.out]at OY⊢;obtain⟨bv,ov,cv,rfl,Oh,hcvm,Nu,NS⟩:=eA.at (OY.fT fK) (i:=0) (x:=⟨1,iN l K⟩) rfl;replace HM:=V (HM.out.below hb);replace HB:=V (ej HB.out hb);have No:=(an w2.heap.size w2).alloc (ag _) (.cells #[.int .i64 3, .int .i64 0, .int .i64 0, .slice (some ⟨bv,ov,none⟩) 1 cv] 49);replace HM:=V (HM.out.below No);replace HB:=V (ej HB.out No);have v1:World.cell? (w2.alloc (.cells #[.int .i64 3, .int .i64 0, .int .i64 0, .slice (some ⟨bv,ov,none⟩) 1 cv] 49)) ⟨bv,ov+1,none⟩=some (.int .i64 (iN l K)):=(No.cell (p:=⟨bv,ov+1,none⟩) Nu).trans (NS 1 _ rfl);have hcv1:1 <=cv:=Oh;have hw:=sD sm;unfold oS at hw;have f1:(iN l K==wrap32 sm)=true:=eV TJ.out.symm;simp only [lq,aD,aH];clear OY hb No NS Nu Oh;have HC2:=V (show q.calls=2*(K:Int)by rw [HC.out];omega);rcases bz 10 l.length with hl | hl;rotate_left
   ·have f2:(2*(K:Int)==2*(l.length:Int))=true:=eV (by have:=HK.out;omega)
    go_wp2_with fail;refine(rn HM.out).mono ?_;rintro y w3 ⟨rfl,hb⟩;replace HB:=V (ej HB.out hb);rw [HC2.out];have f3:(2*(K:Int)==2*(K:Int))=true:=eV rfl;clear hb;go_wp2;go_ret;exact⟨rfl,HB.out⟩
   ·have hl2:(10:Int) < (l.length:Int):=by omega
    have f2:(2*(K:Int)==20)=true:=eV (by have:=HK.out;omega);go_wp2_with fail;refine(rn HM.out).mono ?_;rintro y w3 ⟨rfl,hb⟩;replace HB:=V (ej HB.out hb);rw [HC2.out];have f3:(2*(K:Int)==2*(K:Int))=true:=eV rfl;clear hb;go_wp2;go_ret;exact⟨rfl,HB.out⟩

section
open Go.RowKit Go.ChangeShapes Go.WideShapes Go.ChangeAt
open Go.Deep (open_slice choose_lt)
theorem yy {α:Type} {xs:List α} {n i:Nat} (h:xs.length=n) (hi:i < n):∃x,xs[i]?=some x:=⟨_,aq (by omega)⟩
section
variable {H:Type} {enc:TypeId × Value ->H} {w:World} {base:Nat} {spare:Nat ->Bool} {held:Bool}
theorem Fg {α:Type} [Inhabited α] {t e:TypeId} {k:Nat} {en:α ->List Value} {Q:α ->Prop} (ht:prog.underlying t=some (.slice e)) (hk:prog.cellsOf e=k) (h0:0 < k) (hen:∀y,(en y).length=k)
  (hel:∀n cs x,DataW.trod enc prog w base spare held n e cs=some x ->∃y,cs=en y/\Q y)
  {fuel:Nat} {cs:List Value} {x:DataW H × List MemPlace} (h:DataW.trod enc prog w base spare held fuel t cs=some x):∃v l,cs=[v]/\eA k en w v l/\∀y∈l,Q y:=by
 rcases open_slice ht h with⟨Ro,_⟩ | ⟨ad,len,cap,m,n,D,Pl,Ro,_,hl,hm,Q9,_,hx⟩
 ·exact⟨_,[],Ro,eA.nil w,by simp⟩
 ·rw [hk]at hx
  have hlm:len <=m:=by rw [Q9];split <;>omega
  have hex:∀i,i < len ->∃y:α,Q y/\∀j,j < k ->w.cell? ((ad.add (i*k)).add j)=(en y)[j]?:=by
   intro i hi;obtain⟨cs',h1,h2⟩:=hx i (by omega);obtain⟨y,rfl,hy⟩:=hel _ _ _ h2;obtain⟨_,_,h3⟩:=World.cells?_some h1;exact⟨y,hy,h3⟩
  obtain⟨f,hf⟩:=choose_lt hex;have hget:∀(i:Nat) (y:α),((List.range len).map f)[i]?=some y ->i < len/\y=f i:=by
   intro i y hy;rw [cC]at hy;have hi:i < len:=by
    rcases bz i len with g | g
    ·exact g
    ·rw [da (by simpa using g)]at hy
     cases hy
   rw [aq (by simpa using hi)]at hy;simp at hy;exact⟨hi,hy.symm⟩
  refine⟨_,(List.range len).map f,Ro,⟨some ad,cap,by simp,by simpa using hl,hm,fun i y hy=>?_⟩,fun y hy=>?_⟩
  ·obtain⟨hi,rfl⟩:=hget i y hy
   obtain⟨b,off,spot⟩:=ad;have hs:spot=none:=by
    have g:=(hf 0 (by omega)).2 0 h0;obtain⟨x,hx⟩:=yy (hen (f 0)) h0;rw [hx]at g;have:=World.cell?_spot g;simpa [Addr.add] using this
   subst hs;have hc:=(hf i hi).2;have ha:∀j,((⟨b,off,none⟩:Addr).add (i*k)).add j=⟨b,off+i*k+j,none⟩:=fun j=>by rw [Addr.add_lit,Addr.add_lit]
   refine⟨b,off,rfl,?_,fun j u hu=>?_⟩
   ·obtain⟨x,hx⟩:=yy (hen (f i)) h0
    have g:=hc 0 h0;rw [hx,ha]at g;exact aO w _ g
   ·have hj:j < k:=by rw [<- hen (f i)];exact(aG.1 hu).1
    have:=hc j hj;rw [ha,hu]at this;exact this
  ·obtain⟨i,hi⟩:=List.mem_iff_getElem?.1 hy
   obtain⟨h1,rfl⟩:=hget i y hi;exact(hf i h1).1
end
end
section
open Go.RowKit Go.ChangeShapes Go.WideShapes Go.ChangeAt
theorem Fs {H:Type} {enc:TypeId × Value ->H} {w:World} {base:Nat} {spare:Nat ->Bool} {held:Bool} {fuel:Nat} {v:Value} {x:DataW H × List MemPlace} (h:DataW.trod enc prog w base spare held fuel 22 v.cells.toList=some x) (hc:v.cells.toList=[v]):∃l:List Int,eA 1 fk w v l:=by
 obtain⟨v',l,h1,h2,-⟩:=Fg (en:=fk) (Q:=fun _=>True) underlying22 (by kernel_rfl) (by decide) (fun _=>rfl) (fun n cs x h=>by
  obtain⟨a,e0,_,_⟩:=DataW.trod_int underlying2 h;exact⟨a,e0,trivial⟩) h
 rw [hc]at h1;injection h1 with h1;subst h1;exact⟨l,h2⟩
end
end Go.Proofs.YtjmeglibedbljaaGreatDoor
