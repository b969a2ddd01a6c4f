import Derived.Test.YthbjdhjppbcneaaGreatDoorStackJ14
import Derived.OpenShut
import Derived.Deep.Slices
import Derived.ProofKit
import Derived.Lib.SmallJoins
namespace Go.Proofs.YthbjdhjppbcneaaGreatDoor
set_option maxRecDepth 100000
set_option maxHeartbeats 20000000
open Go.RowKit Tryz
open Lib renaming hid->V
set_option linter.all false
def GG:gI:=⟨[],[⟨2,0,[],0,[]⟩],-1⟩
def yn (body:List eK) (s:gI) (w:World) (e:Ending) (w':World):Prop:=
 ∃X b F FX iv a c,e= .returned (.tuple #[.pointer (some ⟨X,0,none⟩), .pointer (some ⟨b,0,none⟩), .agg #[.int .i64 1, .int .i64 0, .int .i64 0, .slice a 0 c]])/\
  jq w' F FX X b iv (eR body) [] [] 37 s/\(∀i,F i=false ->w.heap.size <=i)/\Below w.heap.size w w'
structure Jz (w0:World) (F FX:Nat ->Bool) (X b RB Y:Nat) (iv:qA) (m:ew) (st:Nat ->gI) (N:Nat) (w:World) (i:Nat):Prop where
 le:i <=N
 run:jq w F FX X b iv m [] [] 37 (st i)
 below:Below w0.heap.size w0 w
 J4:∃a c,eE w Y #[.int .i64 1, .int .i64 0, .int .i64 0, .slice a 0 c] 32
 res:eE w RB #[.int .i64 0, .int .i64 0, .int .i64 0, .slice none 0 0] 32
theorem tO {P:Program} {fn:Func} {t0 u0 u1:Tmp} {ty:TypeId} (h:fn.results=#[.tmp u0, .tmp u1, .cell t0 ty]) (tmps:Array Value) (w:World) {a:Addr} {v:Value} (ht:tmps.getD t0 undef= .pointer (some a))
  (hl:(loadVar ty a).run P w= .ok v w):(results fn tmps).run P w= .ok (.tuple #[tmps.getD u0 undef,tmps.getD u1 undef,v]) w:=by
 have ht':tmps[t0]?.getD undef= .pointer (some a):=by simpa using ht
 simp [results,h,ht',asAddr,hl]
theorem C0 (body:List eK) (h:∀x∈body,x.mg):∀c∈(eR body).eh,∀x∈c.body,x.mg:=by
 intro c hc x hx;simp only [eR,bJ,bO,cS]at hc;rcases hc with rfl | rfl
 ·exact h x hx
 ·simp only [bJ,bO,cS]at hx
  subst hx;unfold eK.mg
  decide
theorem CD (body:List eK) (vb:Value) (st:Nat ->gI) (N:Nat) (w:World) (hb:gd w vb body) (hN:N <=100000) (he:∀x∈body,x.mg) (hfault:iz (eR body)= -1) (h0:st 0=GG)
  (hsteps:∀i,i < N ->∀(w:World) (F FX:Nat ->Bool) (X b:Nat) (iv:qA),jq w F FX X b iv (eR body) [] [] 37 (st i) ->Calls prog 8 #[.pointer (some ⟨X,0,none⟩), .pointer (some ⟨b,0,none⟩)] w (my F FX X b iv (eR body) [] [] 37 (jm.more,st (i+1)) w)):
  Calls prog 7 #[vb, .int .i64 0, .int .i64 (N:Int)] w (yn body (st N) w):=by
 have Pe:=V hb;have HE:=V he;have HFA:=V hfault;have H0:=V h0;have Ko:=V hsteps;obtain⟨ab,cb,rfl,-,hcb⟩:=ea.slice hb;clear hb he hfault h0 hsteps;have hb:=(an w.heap.size w).alloc (ag _) (.cells #[.int .i64 0, .int .i64 0, .int .i64 0, .slice none 0 0] 32);have NG:=V (eE.new w #[.int .i64 0, .int .i64 0, .int .i64 0, .slice none 0 0] 32);have HB:=V hb;clear hb;go_enter func7,ntmps7;go_wp2_with fail;refine(rZ _).mono ?_;rintro x w1 ⟨rfl,hs,hb,hz⟩;rw [aE]at hs hz⊢;obtain⟨B,hB⟩:∃B,B=w.heap.size+1:=⟨_,rfl⟩;rw [<- hB]at hs hz⊢;have HN:=V (show w.heap.size < B/\w1.heap.size=B+15 from⟨by omega,hz⟩);have NG:=V (NG.out.below hb NG.out.lt);have HB:=V (dW HB.out hb);clear hz hB hb;have HX:=V (eE.new w1 ((qO B).cells (eR [])) 62);have hb:=(an w1.heap.size w1).alloc (ag _) (.cells ((qO B).cells (eR [])) 62);have HS:=V (hs.below hb);have NG:=V (NG.out.below hb NG.out.lt);have HB:=V (dW HB.out hb);clear hb hs;simp only [eB.cells,qO,eR,rowAt]at HX HS HB NG⊢;have c1:=HX.out.cell 12;have c2:=HS.out.2.2.2.2.cell 1;have z1:=HS.out.2.2.2.2.free 1;have hx:=HX.out.other ⟨B+14,1,none⟩ (.slice ab body.length cb) (by have:=HN.out;simp;omega);obtain⟨g0,g1,g2,g3,g4,g5,g6,g7,g8,g9,KY,KZ,K0,K3⟩:=hx.mod;clear hx;go_wp2_with fail;have NG:=V (NG.out.other ⟨B+14,1,none⟩ (.slice ab body.length cb) (by have:=HN.out;simp;omega));have HB:=V (HB.out.setCell (p:=⟨B+14,1,none⟩) (by have:=HN.out;simp;omega) (.slice ab body.length cb));have HI:=V ((HS.out.setBody (.slice ab body.length cb)).is (gd.below Pe.out HB.out));clear c1 c2 z1 g0 g1 g2 g3 g4 g5 g6 g7 g8 g9 KY KZ K0 K3 HX HS;refine(lM (eR body) (qO B) _ HI.out (tL _) (C0 body HE.out) (by show(2:Nat)+2 <=1000000;omega) rfl).mono ?_;rintro x w2 ⟨hb,⟨hr,-⟩ | ⟨-,hr,-⟩ | ⟨X,FX,_,_,iv,_,-,-,rfl,K8,-,-,hge,-⟩⟩
 ·exact absurd HFA.out hr
 ·exact absurd ((uE body).symm.trans hr) (by simp)
 have HFXR:=V (show FX w.heap.size=false by
  cases hf:FX w.heap.size with
  | false=>rfl
  | true=>
   have h1:=(hge _ (.inl hf)).1;have h2:=NG.out.lt;omega)
 have NG:=V (NG.out.below hb NG.out.lt);have HB:=V (dW HB.out hb);clear hb HI HN hge;obtain⟨m,N5⟩:∃m,m=eR body:=⟨_,rfl⟩;rw [<- N5]at K8;have HM:=V N5;have HC:=V (show m.eh[0]?=some ⟨[],body⟩by rw [N5];rfl);have HTY:=V (show oo m 2 ⟨[],[]⟩by rw [N5];exact .inr ⟨0,0,rfl,rfl,rfl⟩);have PK:=V (show m.imports.length=2/\m.funcs.length=2 by rw [N5];exact⟨rfl,rfl⟩);have ML:=V (jq.new K8 (-1));obtain⟨F,hF⟩:∃F:Nat ->Bool,F=fun g=>decide (g < w2.heap.size):=⟨_,rfl⟩;rw [<- hF]at ML;have Qj:=V (show∀i,F i=false ->w.heap.size <=i by
  intro i hi;rw [hF]at hi;have:=of_decide_eq_false hi;have:=HB.out.size;omega)
 have HFR:=V (show F w.heap.size=true by
  rw [hF];exact az NG.out.lt)
 have hb:=(an w2.heap.size w2).alloc (ag _) (.cells #[.slice none 0 0, .slice none 0 0, .int .i64 (-1)] 37);have HB:=V (dW HB.out hb);have NG:=V (NG.out.below hb NG.out.lt);obtain⟨b,LQ⟩:∃b,b=w2.heap.size:=⟨_,rfl⟩;rw [<- LQ]at ML;clear N5 K8 hF hb;go_wp2_with fail;rw [<- LQ];clear LQ;have E:=jq.call _ F FX X b iv m [] [] _ _ ML.out 0 ⟨[],body⟩ ⟨[],[]⟩ 2 [] (.slice none 0 0) HC.out (by rw [PK.out.1];rfl) HTY.out (by rw [PK.out.1,PK.out.2];decide) (by decide) (by simp) (ee.nil _) (by simp) (by simp) (by simp);rw [show qT (([]:List Int)++[]) ⟨[],[],-1⟩ 2 []=(jm.more,GG)from rfl]at E;refine bT E ?_;clear E;rintro x w3 ⟨vv,rfl,Kx,N2,hk⟩;obtain⟨av,cv,rfl,-,-⟩:=N2.slice;have HB:=V (HB.out.trans (hk.below HB.out.size Qj.out));have NG:=V (NG.out.keeps hk (by simp [HFR.out]));have hb:=(an w3.heap.size w3).alloc (ag _) (.cells #[.int .i64 1, .int .i64 0, .int .i64 0, .slice av 0 cv] 32);obtain⟨Y,hY⟩:∃Y,Y=w3.heap.size:=⟨_,rfl⟩;have ML:=V (Kx.add hb Y (by omega) (by simp;omega));have HY:=V (eE.new w3 #[.int .i64 1, .int .i64 0, .int .i64 0, .slice av 0 cv] 32);rw [<- hY]at HY;have HFX:=V (show FX Y=false by
  cases hf:FX Y with
  | false=>rfl
  | true=>have:=Kx.inst.lt _ hf;omega)
 have QE:=V (show w.heap.size < Y by rw [hY];exact NG.out.lt);have NG:=V (NG.out.below hb NG.out.lt);obtain⟨F',Qk⟩:∃F':Nat ->Bool,F'=fun g=>F g || decide (g=Y):=⟨_,rfl⟩;rw [<- Qk]at ML;have Qj:=V (show∀i,F' i=false ->w.heap.size <=i by
  intro i hi;rw [Qk,dm]at hi;exact Qj.out i hi.1)
 have HFY:=V (show F' Y=true by rw [Qk];simp);have HFR:=V (show F' w.heap.size=true by rw [Qk];simp [HFR.out]);have HB:=V (dW HB.out hb);clear N2 hk Kx hb Qk;simp only [oc,jm.more,aM];go_wp2_with fail;rw [<- hY];have HJ0:=V (show Jz w F' FX X b w.heap.size Y iv m st N _ 0 from⟨bG _,by rw [H0.out];exact ML.out,HB.out,⟨av,cv,HY.out⟩,NG.out⟩);clear hY;refine ez (fun a' w'=>∃(i:Nat),a'=fr (gs a' 0 2 (.int .i64 N::gs a' 3 5 (.pointer (some ⟨w.heap.size,0,none⟩)::gs a' 9 1 (.pointer (some ⟨X,0,none⟩)::gs a' 11 1 (.pointer (some ⟨b,0,none⟩):: .pointer (some ⟨Y,0,none⟩):: .int .i64 i::gs a' 15 36 [])))))/\Jz w F' FX X b w.heap.size Y iv m st N w' i) (fun a' _=>(N - (intOf (a'.tmps.getD 14 undef)).toNat)) ?_ ?_
 ·exact⟨0,rfl,HJ0.out⟩
 ·skip
  clear HJ0 ML NG HY HB;rintro R a' w1 ⟨i,Kk,hJ⟩ HR;dsimp only [fr,gs]at Kk;generalize slot a'=f at Kk;subst Kk;have HJ:=V hJ;have hiN:=hJ.le;obtain⟨ay,cy,hy⟩:=hJ.J4;have HY:=V hy;clear hJ;by_cases q:i < N
  ·have f1:decide ((i:Int) < (N:Int))=true:=az (by omega)
   obtain⟨⟨y0,y1,y2,y3⟩,-,-,-,-⟩:=hy.four;clear hy;go_wp2_with fail;clear y0 y1 y2 y3 f1;have E:=Ko.out i q w1 F' FX X b iv (by rw [<- HM.out];exact HJ.out.run);rw [<- HM.out]at E;refine bT E ?_;clear E;rintro x w2 ⟨vv,rfl,Kx,N2,hk⟩;obtain⟨a2,c2,rfl,-,-⟩:=N2.slice;have ML:=V Kx;have HB:=V (HJ.out.below.trans (hk.below HJ.out.below.size Qj.out));have NG:=V (HJ.out.res.keeps hk (by simp [HFR.out]));have HY:=V (HY.out.keeps hk (by simp [HFY.out]));clear N2 hk Kx;simp only [oc,jm.more,aM];obtain⟨⟨y0,y1,y2,y3⟩,z0,z1,z2,z3⟩:=HY.out.four;go_wp2_with fail;have Km:=gu w2 Y 1 0 0 (.slice a2 0 c2);refine HR.out _ _ ⟨i+1,rfl,⟨by omega,?_,?_,?_,?_⟩⟩ ?_
   ·exact ML.out.keeps Km (fun g hg=>by rw [hg];exact⟨HFX.out, .inl HFY.out⟩)
   ·exact HB.out.trans (Km.below HB.out.size (fun g hg=>by rw [hg];exact Nat.le_of_lt QE.out))
   ·exact⟨a2,c2,HY.out.rS _ _ _ _⟩
   ·exact NG.out.keeps Km (by have:=QE.out;omega)
   ·simp [intOf]
    omega
  ·have f1:decide ((i:Int) < (N:Int))=false:=aA (by omega)
   obtain rfl:i=N:=by omega
   go_wp2_with fail;obtain⟨⟨y0,y1,y2,y3⟩,-,-,-,-⟩:=hy.drew.four;clear hy;refine eP (fun w'=>w'.cell? ⟨Y,0,none⟩=some (.int .i64 1)/\w'.cell? ⟨Y,1,none⟩=some (.int .i64 0)/\w'.cell? ⟨Y,2,none⟩=some (.int .i64 0)/\w'.cell? ⟨Y,3,none⟩=some (.slice ay 0 cy)) 4 (up 0 4 []) (by kernel_rfl) (by kernel_rfl) ⟨y0,y1,y2,y3⟩ ?_;clear y0 y1 y2 y3;iterate 4 (first | (apply sk rfl rfl;simp only [pt]) | (apply dT rfl rfl rfl;·(rintro w' ⟨t0,t1,t2,t3⟩;go_wp2;exact⟨rfl,rfl,rfl⟩)))
   refine fI rfl rfl ?_;have NG:=V HJ.out.res.drew;obtain⟨⟨x0,x1,x2,x3⟩,-,-,-,-⟩:=NG.out.four;obtain⟨⟨n0,n1,n2,n3⟩,z0,z1,z2,z3⟩:=HJ.out.res.four;go_wp2_with fail;refine⟨trivial,?_⟩;refine aD ?_;clear x0 x1 x2 x3 z0 z1 z2 z3 n0 n1 n2 n3;go_wp2_with fail;have Km:=gu w1 w.heap.size 1 0 0 (.slice ay 0 cy);have hl:=(HJ.out.res.rS (.int .i64 1) (.int .i64 0) (.int .i64 0) (.slice ay 0 cy)).drew;refine aN (tO rfl _ _ rfl hl.pE) rfl ?_;refine⟨X,b,F',FX,iv,ay,cy,rfl,?_,Qj.out,?_⟩
   ·rw [<- HM.out]
    exact HJ.out.run.keeps Km.drew (fun g hg=>by rw [hg];exact⟨HFXR.out, .inl HFR.out⟩)
   ·exact HJ.out.below.trans (Km.drew.below HJ.out.below.size (fun g hg=>by rw [hg];exact ag _))
def gW (l:List Int):List eK:=l.map iV++[⟨0,0,0,[]⟩]
theorem mL {l:List Int} {x:eK} (h:x∈gW l):(∃a∈l,x=iV a)\/x=⟨0,0,0,[]⟩:=by
 rcases bA.1 h with h1 | h1
 ·obtain⟨a,ha,rfl⟩:=List.mem_map.1 h1
  exact .inl ⟨a,ha,rfl⟩
 ·exact .inr (aV.1 h1)
theorem Bm (l:List Int):(gW l).length=l.length+1:=by simp [gW]
theorem Fi (l:List Int):∀x∈gW l,x.l=[]:=by
 intro x hx;rcases mL hx with⟨a,-,rfl⟩ | rfl <;>rfl
theorem yu (l:List Int):∀x∈gW l,x.mg:=by
 intro x hx;rcases mL hx with⟨a,-,rfl⟩ | rfl <;>simp [eK.mg,iV]
def om (l:List Int):Prop:=∀a∈l,-2147483648 <=a/\a <=2147483647
theorem sZ {l:List Int} (hl:l.length <=50) (h:om l):gN.may ⟨[],gW l⟩:=by
 have hlen:=Bm l;have hm:fu (gW l)=some []:=xm _ (by omega) (by
  intro x hx;rcases mL hx with⟨a,-,rfl⟩ | rfl <;>simp [iV])
 refine⟨by rw [hm];rfl,⟨by simp,by simp⟩,by show(gW l).length <=300;omega,fun x hx=>?_⟩;rcases mL hx with⟨a,ha,rfl⟩ | rfl
 ·exact Ej (h a ha).1 (h a ha).2
 ·decide
theorem uX {l:List Int} (h:om l):o9 (gW l):=by
 intro x hx;rcases mL hx with⟨a,ha,rfl⟩ | rfl
 ·have:=h a ha
  refine⟨rfl,?_,?_,?_⟩
  ·simp [iV,iQ]
  ·show iQ a
   unfold iQ;omega
  ·simp [iV,iQ]
 ·simp [iQ]
theorem xt {l:List Int} (hl:l.length <=50) (h:om l):iz (eR (gW l))= -1:=by
 refine uR _ (sZ hl h) (Fi l) (Db _ ⟨[],[⟨2,0,0,true⟩],false⟩ (sZ hl h).1 ?_ (by decide));unfold gW;rw [uq _ l ⟨[],[⟨2,0,0,false⟩],false⟩ rfl];rfl
def mN (l:List Int) (i:Nat):gI:=⟨(l.take i).map fun a=>⟨1,a⟩,[⟨2,(i:Int),[],0,[]⟩],-1⟩
theorem EI (l:List Int):mN l 0=GG:=rfl
theorem CG (l:List Int) (i:Nat) (a:Int) (h:l[i]?=some a):(gW l)[i]?=some (iV a):=by
 unfold gW;rw [bD (by simpa using (aL.1 h).1),cn,h];rfl
theorem Bd (l:List Int):(gW l)[l.length]?=some ⟨0,0,0,[]⟩:=by
 unfold gW;rw [bp (by simp)];simp
theorem BE (b:List eK):(eR b).imports.length=2/\(eR b).funcs.length=2:=⟨rfl,rfl⟩
theorem AL (l:List Int) (hl:l.length <=50) (i:Nat) (hi:i < l.length) (w:World) (F FX:Nat ->Bool) (X b:Nat) (iv:qA) (h:jq w F FX X b iv (eR (gW l)) [] [] 37 (mN l i)):
  Calls prog 8 #[.pointer (some ⟨X,0,none⟩), .pointer (some ⟨b,0,none⟩)] w (my F FX X b iv (eR (gW l)) [] [] 37 (jm.more,mN l (i+1)) w):=by
 obtain⟨a,ha⟩:∃a,l[i]?=some a:=⟨_,aq hi⟩;have hlen:((l.take i).map fun a=>(⟨1,a⟩:fb)).length=i:=by
  rw [bz,aR];omega
 have E:=jq.const w F FX X b iv (eR (gW l)) [] [] 37 ((l.take i).map fun a=>⟨1,a⟩) [] ⟨2,(i:Int),[],0,[]⟩ (-1) 0 i ⟨[],gW l⟩ h rfl rfl (by rw [(BE _).1];decide) rfl a (CG l i a ha) (by omega) (by omega);have hr:kC ((l.take i).map fun a=>⟨1,a⟩) [⟨1,a⟩] ⟨(l.take i).map fun a=>⟨1,a⟩,[]++[⟨2,(i:Int),[],0,[]⟩],-1⟩ [] ⟨2,(i:Int),[],0,[]⟩=(jm.more,mN l (i+1)):=by
  unfold kC;rw [aC (by rw [hlen];simp;omega)];unfold mN;rw [aQ,ha];simp
 rw [hr]at E;exact E
theorem A3 (l:List Int) (w:World) (F FX:Nat ->Bool) (X b:Nat) (iv:qA) (h:jq w F FX X b iv (eR (gW l)) [] [] 37 (mN l l.length)):
  Calls prog 8 #[.pointer (some ⟨X,0,none⟩), .pointer (some ⟨b,0,none⟩)] w (my F FX X b iv (eR (gW l)) [] [] 37 (jm.pF 1,mN l l.length) w):=
 jq.po w F FX X b iv (eR (gW l)) [] [] 37 ((l.take l.length).map fun a=>⟨1,a⟩) [] ⟨2,(l.length:Int),[],0,[]⟩ (-1) 0 l.length ⟨[],gW l⟩ h rfl rfl (by rw [(BE _).1];decide) rfl (Bd l)
theorem yv (l:List Int) (hl:l.length <=50) (h:om l) (vb:Value) (w:World) (hb:gd w vb (gW l)):
  Calls prog 7 #[vb, .int .i64 0, .int .i64 (l.length:Int)] w (yn (gW l) (mN l l.length) w):=
 CD (gW l) vb (mN l) l.length w hb (by omega) (yu l) (xt hl h) (EI l) (fun i hi w F FX X b iv hr=>AL l hl i hi w F FX X b iv hr)
def Aw (n:Int):List Value:=[.int .i32 n]
def zA (x:eK):List Value:=[.int .i64 x.op, .int .i64 x.a, .int .i64 x.b, .slice none 0 0]
theorem DG (x:eK):(zA x).length=4:=rfl
theorem zx (x:eK):∀u∈zA x,u.oneCell'=true:=by
 intro u hu;simp only [zA,bJ,bO,cS]at hu;rcases hu with rfl | rfl | rfl | rfl <;>rfl
theorem Ef {w:World} {v:Value} {l:List eK} (h:ee 4 zA w v l) (hl:o9 l):gd w v l:=by
 refine⟨l.map fun _=> .slice none 0 0,by simp,?_,qJ w l hl⟩;have hz:(l.zip (l.map fun _=>Value.slice none 0 0)).length=l.length:=by simp
 obtain⟨a,cap,h1,h2,h3,h4⟩:=h;refine⟨a,cap,by rw [hz];exact h1,by rw [hz];exact h2,h3,fun i x hx=>?_⟩;obtain⟨hx1,NP⟩:=cK.1 hx;rw [cn,hx1]at NP;injection NP with NP;obtain⟨b,off,e1,e2,e3⟩:=h4 i x.1 hx1;refine⟨b,off,e1,e2,fun j u hu=>e3 j u ?_⟩;rw [<- hu];show(zA x.1)[j]?=(pJ x)[j]?;unfold pJ zA;rw [<- NP]
def Ja (l:List Int) (w0 w:World) (v:Value) (i:Nat):Prop:=i <=l.length/\i <=50/\dR 27 4 zA w w0.heap.size v ((l.take i).map iV)/\Below w0.heap.size w0 w
def IQ (n:Nat) (w0 w:World) (i:Nat):Prop:=i <=n/\Below w0.heap.size w0 w
theorem vi (v0:Value) (l:List Int) (w:World) (hv:ee 1 Aw w v0 l) (hl:om l):Calls prog 3 #[v0] w (ki w):=by
 have HV:=V hv;have HL:=V hl;obtain⟨a,cap,rfl,K7,Mr⟩:=hv.sl;clear hv hl;go_enter func3,ntmps3;go_wp2_with fail;refine(yY w).mono ?_;rintro x WS ⟨rfl,hb⟩;have HV:=V (HV.out.below hb);have HW0:=V hb;clear hb;go_wp2_with fail;refine Cz (fun a' w'=>∃(i:Nat) (v:Value),a'=fr (.slice a l.length cap::gs a' 1 3 (v:: .int .i64 i::gs a' 6 134 []))/\Ja l WS w' v i) (fun a' _=>(l.length - (intOf (a'.tmps.getD 5 undef)).toNat))
  (fun a' w'=>∃(v:Value),a'=fr (.slice a l.length cap::gs a' 1 3 (v::gs a' 5 135 []))/\Ja l WS w' v (min l.length 50)) ?_ ?_ ?_
 ·exact⟨0, .slice none 0 0,rfl,⟨bG _,bG _,dR.nil _ _,an _ _⟩⟩
 ·skip
  rintro R Y a' w1 ⟨i,v,Kk,hJ⟩ HR HY;dsimp only [fr,gs]at Kk;generalize slot a'=f at Kk;subst Kk;obtain⟨hi,hi2,ho,hb⟩:=hJ;have HO:=V ho;have HB:=V hb;by_cases q:i < l.length;rotate_left
  ·have f1:decide ((i:Int) < (l.length:Int))=false:=aA (by omega)
   go_wp2_with fail;exact HY.out _ _ ⟨v,rfl,by omega,by omega,by rw [show min l.length 50=i by omega];exact HO.out,HB.out⟩
  have f1:decide ((i:Int) < (l.length:Int))=true:=az (by omega);by_cases q2:i < 50;rotate_left
  ·have f2:decide ((i:Int) < 50)=false:=aA (by omega)
   go_wp2_with fail;exact HY.out _ _ ⟨v,rfl,by omega,by omega,by rw [show min l.length 50=i by omega];exact HO.out,HB.out⟩
  have f2:decide ((i:Int) < 50)=true:=az (by omega);obtain⟨x,hx⟩:∃x,l[i]?=some x:=⟨_,aq q⟩;obtain⟨bx,ox,cx,hvx,hcx,hcx2,LI,K6⟩:=ee.at (HV.out.below hb) hx;injection hvx with e1 e2 e3;subst e1 e3;have c0:w1.cell? ⟨bx,ox+i,none⟩=some (.int .i32 x):=by
   have:=K6 0 _ rfl
   rwa [bj,aK]at this
  have hx32:=HL.out x (aO hx);have wr:wrap64 x=x:=by unfold wrap64;omega
  have PS:=V hx;obtain⟨av,cv,Ls,-,-⟩:=ho.slice;have Pr:((l.take i).map iV).length=i:=by rw [bz,aR];omega
  rw [Pr]at Ls;subst Ls;clear K6 hx ho hb hx32;go_wp2_with (first | (at_builtin;refine eQ w1 rfl _ _ 24 rfl _ 48 (by kernel_rfl) mD rfl (by decide) (by decide) WS.heap.size (.slice av i cv) ((l.take i).map iV) rfl HO.out (iV x) _ rfl rfl (zx _) rfl (by rw [Pr];omega) HB.out.size ?_));intro v2 w2 KB Kp Ku;have Ld:=V (show dR 27 4 zA w2 WS.heap.size v2 ((l.take (i+1)).map iV)by
   rw [aQ,PS.out,cg,dP];exact KB)
  have KR:=V (HB.out.trans (Kp.below HB.out.size (fun g hg=>(eo HO.out hg).1)));obtain⟨O7,cv2,hve2,-,-⟩:=KB.slice;subst hve2;clear KB Kp Ku c0;go_wp2_with fail;refine HR.out _ _ ⟨i+1,_,rfl,⟨by omega,by omega,Ld.out,KR.out⟩⟩ ?_;simp [intOf];omega
 ·skip
  rintro a' w1 ⟨v,Kk,hJ⟩;dsimp only [fr,gs]at Kk;generalize slot a'=f at Kk;subst Kk;obtain⟨-,-,ho,hb⟩:=hJ;obtain⟨n,hn⟩:∃n,min l.length 50=n:=⟨_,rfl⟩;rw [hn]at ho;have hn1:n <=l.length:=by omega
  have hn2:n <=50:=by omega
  obtain⟨L,hL⟩:∃L,L=l.take n:=⟨_,rfl⟩;rw [<- hL]at ho;have L9:=V (show L.length=n by rw [hL,aR];omega);have HLS:=V (show om L from fun x hx=>HL.out x (cz (by rw [hL]at hx;exact hx)));have HLA:=V (show∀i,i < n ->L[i]?=l[i]? from fun i hi=>by rw [hL,cG,aJ hi]);have hlm:(L.map iV).length=n:=by rw [bz];exact L9.out
  obtain⟨av,cv,Ls,-,-⟩:=ho.slice;rw [hlm]at Ls;subst Ls;have HO:=V ho;have HB:=V hb;clear ho hb hL hn;go_wp2_with (first | (at_builtin;refine eQ w1 rfl _ _ 24 rfl _ 48 (by kernel_rfl) mD rfl (by decide) (by decide) _ (.slice av n cv) (L.map iV) rfl HO.out (⟨0,0,0,[]⟩:eK) _ rfl rfl (zx _) rfl (by rw [hlm];omega) HB.out.size ?_));intro v2 w2 KB Kp Ku;have HB:=V (HB.out.trans (Kp.below HB.out.size (fun g hg=>(eo HO.out hg).1)));have Pe:=V (Ef (KB.fD DG) (show o9 (L.map iV++[⟨0,0,0,[]⟩])from uX HLS.out));obtain⟨a2,c2,Ls,-,-⟩:=KB.slice;rw [ah,hlm,aB]at Ls;subst Ls;clear KB Kp Ku HO;go_wp2_with fail;have E:=yv L (by rw [L9.out];exact hn2) HLS.out _ w2 Pe.out;rw [L9.out]at E;refine bT E ?_;clear E Pe;rintro x w3 ⟨X,b,F,FX,iv,ao,co,rfl,Kx,hf,hb⟩;have Kw:=(an w3.heap.size w3).alloc (ag _) (.cells #[.int .i64 1, .int .i64 0, .int .i64 0, .slice ao 0 co] 32);obtain⟨Y,hY⟩:∃Y,Y=w3.heap.size:=⟨_,rfl⟩;have ML:=V (Kx.add Kw Y (by omega) (by simp;omega));have HY:=V (eE.new w3 #[.int .i64 1, .int .i64 0, .int .i64 0, .slice ao 0 co] 32);rw [<- hY]at HY;have HFX:=V (show FX Y=false by
   cases hg:FX Y with
   | false=>rfl
   | true=>have:=Kx.inst.lt _ hg;omega)
  have HW:=V HB.out.size;have HYW:=V (show WS.heap.size <=Y by rw [hY];exact(dW HB.out hb).size);have HB:=V (dW (dW HB.out hb) Kw);obtain⟨F',Qk⟩:∃F':Nat ->Bool,F'=fun g=>F g || decide (g=Y):=⟨_,rfl⟩;rw [<- Qk]at ML;have Qj:=V (show∀i,F' i=false ->WS.heap.size <=i by
   intro i hi;rw [Qk,dm]at hi;have:=hf i hi.1;have:=HW.out;omega)
  have HFY:=V (show F' Y=true by rw [Qk];simp);clear Kx hf hb Kw Qk;obtain⟨a0,k0,x0,NH,OR⟩:=jq.c0 ML.out;obtain⟨g1,k1,x1,LH,hk1m,x2,x3⟩:=jq.c1 (lo:=[]) ML.out;have MH:(mN L n).dX.length=n:=by
   show((L.take n).map fun a=>(⟨1,a⟩:fb)).length=n;rw [bz,aR,L9.out,bY]
  rw [MH]at x0 NH;have HVALS:=V NH;replace x0:World.cell? _ ⟨b,0,none⟩=some (.slice a0 n k0):=x0;replace x1:World.cell? _ ⟨b,1,none⟩=some (.slice (some ⟨g1,0,none⟩) 1 k1):=x1;replace x2:World.cell? _ ⟨g1,0,none⟩=some (.int .i64 2):=x2;replace x3:World.cell? _ ⟨g1,1,none⟩=some (.int .i64 (n:Int)):=x3;have hk1':1 <=k1:=LH;have f1:((n:Int) !=(n:Int))=false:=jI rfl;clear NH LH;have HYE:=V hY;clear hY;go_wp2_with fail;rw [<- HYE.out];have HBR:=V HB.out;generalize(w3.alloc (.cells #[.int .i64 1, .int .i64 0, .int .i64 0, .slice ao 0 co] 32))=WA at ML HY HBR⊢;clear HVALS x0 x1 x2 x3 f1 HB;refine ez (fun a' w'=>∃(i:Nat),a'=fr (.slice a l.length cap::gs a' 1 5 (.int .i64 n:: .pointer (some ⟨X,0,none⟩):: .pointer (some ⟨b,0,none⟩):: .pointer (some ⟨Y,0,none⟩):: .int .i64 i::gs a' 11 129 []))/\IQ n WA w' i) (fun a' _=>(n - (intOf (a'.tmps.getD 10 undef)).toNat)) ?_ ?_
  ·exact⟨0,rfl,bG _,an _ _⟩
  ·skip
   clear f;rintro R a' w1 ⟨i,Kk,hJ⟩ HR;dsimp only [fr,gs]at Kk;generalize slot a'=f at Kk;subst Kk;obtain⟨hi,hb⟩:=hJ;have ML:=V (ML.out.below hb);have HY:=V (HY.out.below hb HY.out.lt);have Kz:=V (dW HBR.out hb);by_cases q:i < n
   ·have f1:decide ((i:Int) < (n:Int))=true:=az (by omega)
    have hil:i < l.length:=by omega
    obtain⟨x,hx⟩:∃x,l[i]?=some x:=⟨_,aq hil⟩;have hx32:=HL.out x (aO hx);have wr:wrap64 x=x:=by unfold wrap64;omega
    have f2:(x !=x)=false:=jI rfl;obtain⟨bx,ox,cx,hvx,hcx,hcx2,LI,K6⟩:=ee.at (HV.out.below Kz.out) hx;injection hvx with e1 e2 e3;subst e1 e3;have c0:w1.cell? ⟨bx,ox+i,none⟩=some (.int .i32 x):=by
     have:=K6 0 _ rfl
     rwa [bj,aK]at this
    obtain⟨a0,k0,x0,NH,OR⟩:=jq.c0 ML.out;have hvi:(mN L n).dX[i]?=some ⟨1,x⟩:=by
     show((L.take n).map fun a=>(⟨1,a⟩:fb))[i]?=_;rw [cn,cG,aJ q,HLA.out i q,hx];rfl
    obtain⟨bv,ov,cv2,N2,LC,hcv2,-,Ql⟩:=ee.at NH hvi;rw [MH]at N2 LC x0;rw [MH]at NH;injection N2 with e4 e5 e6;subst e4 e6;have d0:w1.cell? ⟨bv,ov+i*2,none⟩=some (.int .i64 1):=Ql 0 _ rfl;have d1:w1.cell? ⟨bv,ov+i*2+1,none⟩=some (.int .i64 x):=Ql 1 _ rfl;replace x0:w1.cell? ⟨b,0,none⟩=some (.slice (some ⟨bv,ov,none⟩) n k0):=x0;clear K6 Ql NH hvi hx hx32 e2 e5;go_wp2_with fail;refine ed (fun w'=>w'.cell? ⟨b,0,none⟩=some (.slice (some ⟨bv,ov,none⟩) n k0)/\w'.cell? ⟨bv,ov+i*2,none⟩=some (.int .i64 1)/\w'.cell? ⟨bv,ov+i*2+1,none⟩=some (.int .i64 x)/\w'.cell? ⟨bx,ox+i,none⟩=some (.int .i32 x)) (up 0 25 []) (by kernel_rfl) (by kernel_rfl) ⟨x0,d0,d1,c0⟩ ?_;clear x0 d0 d1 c0;iterate 25 (first | (apply sk rfl rfl;simp only [pt]) | (apply dT rfl rfl rfl;·(rintro w' ⟨t0,t1,t2,t3⟩;go_wp2;exact⟨rfl,rfl,rfl⟩)))
    refine eH ?_;refine aD ?_;go_wp2_with fail;refine HR.out _ _ ⟨i+1,rfl,by omega,hb.drew⟩ ?_;simp [intOf];omega
   ·have f1:decide ((i:Int) < (n:Int))=false:=aA (by omega)
    obtain rfl:i=n:=by omega
    go_wp2_with fail;have h:=ML.out;rw [<- L9.out]at h;have E:=A3 L w1 F' FX X b iv h;rw [L9.out]at E;clear h f1;refine bT E ?_;clear E;rintro x w2 ⟨vv,rfl,Kx,N2,hk⟩;obtain⟨a5,c5,rfl,-,-⟩:=N2.slice;have HY:=V (HY.out.keeps hk (by simp [HFY.out]));have Mf:b≠Y:=by
     obtain⟨v,-,h2⟩:=Kx.st;intro e;have:=h2 b (.inl rfl);rw [e,HFY.out]at this;cases this
    obtain⟨a0,k0,x0,NH,OR⟩:=jq.c0 Kx;rw [MH]at x0;replace x0:w2.cell? ⟨b,0,none⟩=some (.slice a0 i k0):=x0;have f3:((i:Int)==(i:Int))=true:=eF rfl;have HBZ:=V (Kz.out.trans (hk.below Kz.out.size Qj.out));clear N2 hk Kx NH;simp only [oc,jm.pF,aM];obtain⟨⟨y0,y1,y2,y3⟩,z0,z1,z2,z3⟩:=HY.out.four;go_wp2_with fail;go_ret;have Km:=gu w2 Y 4 1 0 (.slice a5 0 c5);exact⟨rfl,dW HW0.out (HBZ.out.trans (Km.below HBZ.out.size (fun g hg=>by rw [hg];exact HYW.out)))⟩

section
open Go.RowKit Go.ChangeShapes Go.WideShapes Go.ChangeAt
open Go.Deep (open_slice choose_lt)
theorem vL {α:Type} {xs:List α} {n i:Nat} (h:xs.length=n) (hi:i < n):∃x,xs[i]?=some x:=⟨_,aq (by omega)⟩
section
variable {H:Type} {enc:TypeId × Value ->H} {w:World} {base:Nat} {spare:Nat ->Bool} {held:Bool}
theorem CN {α:Type} [Inhabited α] {t e:TypeId} {k:Nat} {en:α ->List Value} {Q:α ->Prop} (ht:prog.underlying t=some (.slice e)) (hk:prog.cellsOf e=k) (h0:0 < k) (hen:∀y,(en y).length=k)
  (hel:∀n cs x,DataW.trod enc prog w base spare held n e cs=some x ->∃y,cs=en y/\Q y)
  {fuel:Nat} {cs:List Value} {x:DataW H × List MemPlace} (h:DataW.trod enc prog w base spare held fuel t cs=some x):∃v l,cs=[v]/\ee k en w v l/\∀y∈l,Q y:=by
 rcases open_slice ht h with⟨Qm,_⟩ | ⟨ad,len,cap,m,n,D,Pl,Qm,_,hl,hm,N5,_,hx⟩
 ·exact⟨_,[],Qm,ee.nil w,by simp⟩
 ·rw [hk]at hx
  have hlm:len <=m:=by rw [N5];split <;>omega
  have hex:∀i,i < len ->∃y:α,Q y/\∀j,j < k ->w.cell? ((ad.add (i*k)).add j)=(en y)[j]?:=by
   intro i hi;obtain⟨cs',h1,h2⟩:=hx i (by omega);obtain⟨y,rfl,hy⟩:=hel _ _ _ h2;obtain⟨_,_,h3⟩:=World.cells?_some h1;exact⟨y,hy,h3⟩
  obtain⟨f,hf⟩:=choose_lt hex;have hget:∀(i:Nat) (y:α),((List.range len).map f)[i]?=some y ->i < len/\y=f i:=by
   intro i y hy;rw [cn]at hy;have hi:i < len:=by
    rcases bq i len with g | g
    ·exact g
    ·rw [cT (by simpa using g)]at hy
     cases hy
   rw [aq (by simpa using hi)]at hy;simp at hy;exact⟨hi,hy.symm⟩
  refine⟨_,(List.range len).map f,Qm,⟨some ad,cap,by simp,by simpa using hl,hm,fun i y hy=>?_⟩,fun y hy=>?_⟩
  ·obtain⟨hi,rfl⟩:=hget i y hy
   obtain⟨b,off,spot⟩:=ad;have hs:spot=none:=by
    have g:=(hf 0 (by omega)).2 0 h0;obtain⟨x,hx⟩:=vL (hen (f 0)) h0;rw [hx]at g;have:=World.cell?_spot g;simpa [Addr.add] using this
   subst hs;have hc:=(hf i hi).2;have ha:∀j,((⟨b,off,none⟩:Addr).add (i*k)).add j=⟨b,off+i*k+j,none⟩:=fun j=>by rw [Addr.add_lit,Addr.add_lit]
   refine⟨b,off,rfl,?_,fun j u hu=>?_⟩
   ·obtain⟨x,hx⟩:=vL (hen (f i)) h0
    have g:=hc 0 h0;rw [hx,ha]at g;exact aS w _ g
   ·have hj:j < k:=by rw [<- hen (f i)];exact(aL.1 hu).1
    have:=hc j hj;rw [ha,hu]at this;exact this
  ·obtain⟨i,hi⟩:=List.mem_iff_getElem?.1 hy
   obtain⟨h1,rfl⟩:=hget i y hi;exact(hf i h1).1
theorem C1 {fuel:Nat} {v:Value} {x:DataW H × List MemPlace} (h:DataW.trod enc prog w base spare held fuel 22 v.cells.toList=some x) (hc:v.cells.toList=[v]):∃l:List Int,ee 1 Aw w v l/\om l:=by
 obtain⟨v',l,h1,h2,h3⟩:=CN (en:=Aw) (Q:=fun n=> -2147483648 <=n/\n <=2147483647) underlying22 (by kernel_rfl) (by decide) (fun _=>rfl) (fun n cs x h=>by
  obtain⟨a,e0,_,w0⟩:=DataW.trod_int underlying21 h;exact⟨a,e0,bounds_i32 w0⟩) h
 rw [hc]at h1;injection h1 with h1;subst h1;exact⟨l,h2,h3⟩
end
end
end Go.Proofs.YthbjdhjppbcneaaGreatDoor
