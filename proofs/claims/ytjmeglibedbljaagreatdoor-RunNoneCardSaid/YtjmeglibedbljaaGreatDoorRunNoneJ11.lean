import Derived.Test.YtjmeglibedbljaaGreatDoorRunNoneJ10
import Derived.Laws.ComplexArith
import Derived.WalkLawsBesides
namespace Go.Proofs.YtjmeglibedbljaaGreatDoor
set_option maxRecDepth 100000
set_option maxHeartbeats 20000000
open Go.RowKit Tryz
open Lib renaming hid->V
set_option linter.all false
theorem G5 {w:World} {B:Nat} {v:Value} {ks:List Int} (h:dS 3 1 eU w B v ks) (n:Nat) (hn:n <=ks.length):
  ∃a cap dp,v= .slice a ks.length cap/\cap <=9223372036854775807/\(∀wx,(Instr.slice 26 (.slice a ks.length cap) (some (.int .i64 n)) none none).run prog wx= .ok (.slice dp (ks.length - n) (cap - n)) wx)/\
   ∀(w':World) (B':Nat),dS 3 1 eU w' B' (.slice a ks.length cap) ks ->ee 1 eU w' (.slice dp (ks.length - n) (cap - n)) (ks.drop n):=by
 have hi:=h.fH fm;obtain⟨a,cap,rfl,h1,h2,-⟩:=hi;by_cases q:n < ks.length
 ·obtain⟨g,LQ,cur,hv,-,hg,-⟩:=h.open (by intro e;rw [e]at q;simp at q)
  injection hv with e1 _ e2;subst e1 e2;refine⟨_,cap,some ⟨g,n,none⟩,rfl,by simpa [maxLen] using h2,fun wx=>jX g _ cap n q h1 wx,fun w' B' h'=>⟨some ⟨g,n,none⟩,cap - n,by rw [bg],by rw [bg];omega,by omega,fun i x hx=>?_⟩⟩;obtain⟨a',LQ,P6,_,_,h3⟩:=h'.fH fm;injection P6 with e3 _ e4;subst e3 e4;rw [List.getElem?_drop]at hx;obtain⟨b,off,he,LD,hc⟩:=h3 (n+i) x hx;injection he with he;injection he with e3 e4;subst e3 e4;refine⟨g,n,rfl,LD,fun j u hu=>?_⟩;have:=hc j u hu;rw [<- this]
  congr 2
  omega
 ·obtain rfl:n=ks.length:=by omega
  have ha:a=none ->cap=0:=by
   intro e;obtain⟨_,hv | ⟨g,LQ,cur,hv,-⟩⟩:=h
   ·have:=hv.1
    injection this
   ·rw [e]at hv
    injection hv with e1;cases e1
  obtain⟨dp,hr⟩:=oH a ks.length cap h1 ha;refine⟨a,cap,dp,rfl,by simpa [maxLen] using h2,fun wx=>by rw [hr wx,Nat.sub_self],fun w' B' h'=>⟨dp,cap - ks.length,by simp,by simp,by omega,?_⟩⟩;simp
def zv (k:Int):eX:=⟨k,0⟩
def mT (ks:List Int) (s:fy) (f:Int) (args:List eX):gT × fy:=
 if 32 <=s.eg.length then(.full,s)else(.more,⟨s.dX,s.eg++[⟨f,0,args++(ks.drop args.length).map zv,s.dX.length,[]⟩],s.asks⟩)
def Kf (args:List eX) (kv:Value) (ks rest:List Int) (w2 w':World) (v:Value) (i:Nat):Prop:=i <=rest.length/\dS 3 1 eU w' 0 kv ks/\dS 52 2 fD w' w2.heap.size v (args++(rest.take i).map zv)/\Below w2.heap.size w2 w'
theorem EU (w:World) (FX:Nat ->Bool) (X b:Nat) (iv:ly) (m:eu) (pre post:List Value) (t:TypeId) (v:rI) (s:fy) (k:Nat) (c:hI) (ty:gw) (fn:Int) (args:List eX) (va:Value)
  (LS:fM w b pre post t v s) (Ml:iw w FX X iv m) (hc:m.eh[k]?=some c) (hf:fn=((m.imports.length+k:Nat):Int)) (PM:mC m fn ty) (hk:m.imports.length+m.funcs.length <=100000) (M7:k <=100000) (hl:ty.params.length+c.locals.length <=100000)
  (ha:ee 2 fD w va args) (Ng:args.length <=(ty.params++c.locals).length) (hn:s.dX.length <=50000) (Lv:s.eg.length <=50000):
  Calls prog 24 #[.pointer (some ⟨X,0,none⟩), .pointer (some ⟨b,pre.length,none⟩), .int .i64 fn,va] w (fW b pre post t v (mT (ty.params++c.locals) s fn args) w):=by
 obtain⟨dX,eg,asks⟩:=s;obtain⟨uv,uf,us⟩:=v;obtain⟨av,cv,huv,-,Nc⟩:=LS.dX.slice;obtain⟨af,cf,huf,-,hcfm⟩:=LS.eg.slice;have hzl:(eg.zip us).length=eg.length:=by rw [bS,LS.rows.len,cP]
 simp only at huv huf hn Lv;rw [hzl]at huf;subst huv huf;obtain⟨aa,ca,rfl,-,hcam⟩:=id ha;unfold maxLen at hcam;have LR:=(an w.heap.size w).alloc (ag _) (.cells #[.int .i64 0, .int .i64 0, .int .i64 0, .slice none 0 0] 49);have HX:=V (eD.new w #[.int .i64 0, .int .i64 0, .int .i64 0, .slice none 0 0] 49);have Ra:=V LS;have Lz:=V (LS.below LR);have L9:=V (Ml.below LR);have HA:=V (ha.ext (Ext.dW LR));have HT:=V (kP.dW (v:=⟨.slice av dX.length cv, .slice af eg.length cf,us⟩) (b:=b) LR);have HB:=V LR;have HC:=V hc;have HF:=V hf;have P2:=V PM;have Mf:=LS.jq.lt;have c0:World.cell? _ ⟨b,pre.length,none⟩=some (.slice av dX.length cv):=Lz.out.c0;have c1:World.cell? _ ⟨b,pre.length+1,none⟩=some (.slice af eg.length cf):=Lz.out.c1;clear LS Ml ha LR hc hf PM hzl;by_cases q:32 <=eg.length
 ·have f1:decide ((32:Int) <=(eg.length:Int))=true:=ay (by omega)
  have f2:decide (32 <=eg.length)=true:=ay q;have HR:=V (show mT (ty.params++c.locals) ⟨dX,eg,asks⟩ fn args=(.full,⟨dX,eg,asks⟩)by unfold mT;rw [if_pos q]);clear q;go_enter func24,ntmps24;go_wp2_with fail;refine(zx _).mono ?_;rintro e w2 ⟨rfl,hb⟩;replace HX:=V (HX.out.below hb HX.out.lt);replace Lz:=V (Lz.out.below hb);replace HT:=V (HT.out.below hb);clear hb c0 c1;obtain⟨⟨x0,x1,x2,x3⟩,z0,z1,z2,z3⟩:=HX.out.four;go_wp2_with fail;refine aF (ej rfl _ _ rfl (kq HX.out rfl 5 0 0 (.slice none 0 0))) rfl ?_;exact fW.mk HR.out Lz.out HT.out Ra.out.xS (dS.nil _ _) (fun g hg=>by simp [ez,Value.ownBlock]at hg) (by simp [ez,Value.ownBlock]) 5 0 0 rfl rfl rfl
 ·have f1:decide ((32:Int) <=(eg.length:Int))=false:=aw (by omega)
  have f2:decide (32 <=eg.length)=false:=aw q;obtain⟨rest,Mn⟩:∃rest,(ty.params++c.locals).drop args.length=rest:=⟨_,rfl⟩;have hrl:rest.length <=100000:=by rw [<- Mn,bg,ah];omega
  have HR:=V (show mT (ty.params++c.locals) ⟨dX,eg,asks⟩ fn args=(.more,⟨dX,eg++[⟨fn,0,args++rest.map zv,dX.length,[]⟩],asks⟩)by unfold mT;rw [if_neg q,Mn]);have hargl:args.length <=100000:=by rw [ah]at Ng;omega
  have HRS:=V Mn;have ND:=HR;clear q Mn HR;go_enter func24,ntmps24;go_wp2_with fail;generalize(w.alloc (.cells #[.int .i64 0, .int .i64 0, .int .i64 0, .slice none 0 0] 49))=w2 at HX Lz L9 HA HT HB c0 c1⊢;refine(mP _ args w2 HA.out (by omega)).mono ?_;rintro e w3 ⟨lv,rfl,RE,hb⟩;obtain⟨a3,c3,rfl,-,-⟩:=RE.slice;have Pr:=V RE;have RC:=V hb;clear RE hb f1 f2;go_wp2_with fail;refine(Bf w3 FX X iv m (L9.out.below RC.out) k c ty HC.out fn HF.out P2.out hk M7 hl).mono ?_;rintro e w4 ⟨kv,rfl,hko,hb⟩;obtain⟨ks,hks⟩:∃ks,ty.params++c.locals=ks:=⟨_,rfl⟩;have HRK:=V HRS.out;rw [hks]at hko Ng HRK;obtain⟨ak,ck,dp,rfl,hckm,LJ,hrk⟩:=G5 hko args.length Ng;have hrl2:ks.length - args.length=rest.length:=by rw [<- HRK.out,bg]
  clear hks;rw [hrl2]at LJ hrk;have HKO:=V (hko.lower (bB w3.heap.size));rw [HRK.out]at hrk;have HLO4:=V (Pr.out.below hb);have HB4:=V (RC.out.trans (hb.mono RC.out.size));have HRK:=V hrk;clear hko hb hrk hrl2 Ng;go_wp2_with fail;clear LJ;refine eC (fun a' w'=>∃(i:Nat) (v:Value),a'=fr (.pointer (some ⟨X,0,none⟩):: .pointer (some ⟨b,pre.length,none⟩):: .int .i64 fn:: .slice aa args.length ca::gs a' 4 4 (.pointer (some ⟨w.heap.size,0,none⟩)::v::gs a' 10 16 (.slice dp rest.length (ck - args.length):: .int .i64 rest.length:: .int .i64 i::gs a' 29 27 [])))/\Kf args (.slice ak ks.length ck) ks rest w2 w' v i) (fun a' _=>(rest.length - (intOf (a'.tmps.getD 28 undef)).toNat)) ?_ ?_
  ·exact⟨0,_,rfl,bB _,HKO.out,by simpa using HLO4.out,HB4.out⟩
  ·skip
   rintro R a' w1 ⟨i,v,Lv,hJ⟩ HR;dsimp only [fr,gs]at Lv;generalize slot a'=f at Lv;subst Lv;obtain⟨hi,hks,RE,hb⟩:=hJ;have HKS:=V hks;have HRW:=V (HRK.out w1 0 hks);have Pr:=V RE;have HB5:=V hb;obtain⟨a5,c5,MK,-,-⟩:=RE.slice;have OV:(args++(rest.take i).map zv).length=args.length+i:=by simp;omega
   rw [OV]at MK;subst MK;clear RE hb hks;by_cases q:i < rest.length
   ·obtain⟨x,hx⟩:∃x,rest[i]?=some x:=⟨_,aq q⟩
    obtain⟨bk,offk,capk,MK,-,-,hbkl,LM⟩:=ee.at HRW.out hx;injection MK with e1 e2 e3;subst e1;have y0:w1.cell? ⟨bk,offk+i,none⟩=some (.int .i64 x):=by
     have:=LM 0 _ rfl
     rwa [aY,aI]at this
    have HXI:=V hx;have Mq:=HB5.out.size;clear hx LM e2 e3 hbkl;go_wp2_with (first | (at_builtin;refine fb w1 rfl _ _ 47 rfl _ 16 (by kernel_rfl) kL rfl (by decide) (by decide) w2.heap.size (.slice a5 (args.length+i) c5) (args++(rest.take i).map zv) rfl Pr.out (zv x) _ rfl rfl (lD _) rfl (by rw [OV];omega) Mq ?_));intro v6 w6 ho PG hs6;have HB6:=V (dU.vg HB5.out Pr.out (ag _) PG);have HK6:=V (HKS.out.keeps PG (fun g hg h=>dS.ne HKS.out Pr.out (by decide) g hg h));have HO6:=V ho;clear ho PG hs6;go_wp2;refine HR.out _ _ ⟨i+1,v6,rfl,by omega,HK6.out,?_,HB6.out⟩ ?_
    ·have h:=HO6.out
     rw [aR,HXI.out];simpa using h
    ·simp [intOf]
     omega
   ·obtain rfl:i=rest.length:=by omega
    obtain⟨L,hL⟩:∃L,args++(rest.take rest.length).map zv=L:=⟨_,rfl⟩;have HRL:=V (show mT (ty.params++c.locals) ⟨dX,eg,asks⟩ fn args=(.more,⟨dX,eg++[⟨fn,0,L,dX.length,[]⟩],asks⟩)by rw [ND.out, <- hL,aU]);rw [hL]at Pr OV;rw [<- OV]at Pr⊢;have HOL:=V (fun g (hg:ez (.slice a5 L.length c5) g)=>(ey Pr.out hg).1);have HLT:=V (fun g hg=>Lz.out.lt (g:=g) hg);have Ny:=HB5.out.drew;have HX7:=V (HX.out.below Ny HX.out.lt);have Py:=V (Lz.out.below Ny);have HT7:=V (HT.out.below Ny);have HL7:=V (show dS 52 2 fD w1.drew 0 (.slice a5 L.length c5) L from Pr.out.lower (bB _));have hS:w1.drew.cell? ⟨b,pre.length+1,none⟩=some (.slice af eg.length cf)/\w1.drew.cell? ⟨b,pre.length,none⟩=some (.slice av dX.length cv):=⟨Py.out.c1,Py.out.c0⟩;have MD:=V HT.out.1.size;clear hL OV Ny c0 c1 HR HRW HKS HB5 Pr;go_wp2_with fail;refine eK (fun w'=>w'.cell? ⟨b,pre.length+1,none⟩=some (.slice af eg.length cf)/\w'.cell? ⟨b,pre.length,none⟩=some (.slice av dX.length cv)) 17 (up 0 13 ((13,false)::(14,false)::(15,true)::(16,true)::[])) (by kernel_rfl) (by kernel_rfl) hS ?_;clear hS;generalize w1.drew=w7 at HX7 Py HT7 HL7⊢;iterate 13 (first | (apply sk rfl rfl;simp only [pt]) | (apply dV rfl rfl rfl;·(rintro w' ⟨t0,t1⟩;go_wp2;exact⟨rfl,rfl,rfl⟩)))
    refine dZ rfl rfl ?_;go_wp2_with fail;refine⟨⟨(Py.out.alloc _).c1,(Py.out.alloc _).c0⟩,?_⟩;refine dZ rfl rfl ?_;have hzl:(eg.zip us).length=eg.length:=by rw [bS,Py.out.rows.len,cP]
    have HZL:=V hzl;clear hzl;go_wp2_with (first | (at_builtin;refine fb w7 rfl _ _ 58 rfl _ 72 (by kernel_rfl) mA rfl (by decide) (by decide) 0 (.slice af eg.length cf) (eg.zip us) rfl Py.out.eg ((⟨fn,0,L,dX.length,[]⟩:eR),((.slice a5 L.length c5:Value),(.slice none 0 0:Value))) _ rfl rfl (by intro z hz;simp only [lT,bH,bP,da]at hz;rcases hz with rfl | rfl | rfl | rfl | rfl <;>rfl) rfl (by rw [HZL.out];omega) (bB _) ?_));intro v8 w8 ho hk hs;obtain⟨a8,c8,MK,-,-⟩:=ho.slice;rw [ah,HZL.out,aB]at MK;subst MK;have LN:=Py.out.C3 hk;have HP:=V (Py.out.Dw (f:=⟨fn,0,L,dX.length,[]⟩) (u:=((.slice a5 L.length c5:Value),(.slice none 0 0:Value))) ⟨HL7.out,dS.nil _ _⟩
     (fun g hg h=>hg.elim (fun hg=>by have:=HOL.out g hg;have:=HLT.out g h;omega) (fun hg=>by simp [ez,Value.ownBlock]at hg))
     (fun g hg h=>hg.elim (fun hg=>by have:=HOL.out g hg;have:=HLT.out g (.inr (.inr (.inl h)));omega) (fun hg=>by simp [ez,Value.ownBlock]at hg)) ho hk hs)
    have c1:w8.cell? ⟨b,pre.length+1,none⟩=some (.slice af eg.length cf):=(LN.1.cell _).trans (Aa _ _ _ _);have c0:w8.cell? ⟨b,pre.length,none⟩=some (.slice av dX.length cv):=(LN.1.cell _).trans (rC _ _ _ _);have z1:=LN.1.free (pre.length+1);have HX8:=V (HX7.out.keeps hk (fun hg=>dS.fV Py.out.eg HX7.out (by decide) _ hg rfl));clear LN hk hs ho;go_wp2_with fail;refine⟨⟨c1,c0⟩,?_⟩;iterate 2 (first | (apply sk rfl rfl;simp only [pt]) | (apply dV rfl rfl rfl;·(rintro w' ⟨t0,t1⟩;go_wp2;exact⟨rfl,rfl,rfl⟩)))
    refine fu rfl rfl ?_;go_wp2;refine⟨trivial,?_⟩;refine aA ?_;clear c0 c1 z1;obtain⟨h1,h2,h3⟩:=HP.out;have HX9:=V (HX8.out.keeps (ei w8 b (pre.length+1) (.slice a8 (eg.length+1) c8)) (by omega));have HST9:=V h1;have HT9:=V (show kP _ ⟨.slice av dX.length cv, .slice a8 (eg.length+1) c8,us++[((.slice a5 L.length c5:Value),(.slice none 0 0:Value))]⟩ b w _ from⟨HT7.out.1.trans h2 (fun g hg=> .inl hg),fun g hg=>by
     rcases h3 g hg with h | (h | h) | h
     ·exact .inl h
     ·have:=HOL.out g h
      have:=MD.out;exact .inr (by omega)
     ·simp [ez,Value.ownBlock]at h
     ·have:=HT7.out.1.size
      exact .inr (by omega)⟩)
    clear h1 h2 h3 HP;generalize w8.setCell ⟨b,pre.length+1,none⟩ (.slice a8 (eg.length+1) c8)=w9 at HX9 HST9 HT9⊢;go_wp2_with fail;refine(tR _).mono ?_;rintro e w10 ⟨rfl,hb⟩;replace HX9:=V (HX9.out.below hb HX9.out.lt);replace HST9:=V (HST9.out.below hb);replace HT9:=V (HT9.out.below hb);clear hb;obtain⟨⟨x0,x1,x2,x3⟩,z0,z1,z2,z3⟩:=HX9.out.four;go_wp2_with fail;refine aF (ej rfl _ _ rfl (kq HX9.out rfl 1 0 0 (.slice none 0 0))) rfl ?_;exact fW.mk HRL.out HST9.out HT9.out (HST9.out.not HX9.out (by omega) (by decide)) (dS.nil _ _) (fun g hg=>by simp [ez,Value.ownBlock]at hg) (by simp [ez,Value.ownBlock]) 1 0 0 rfl rfl rfl
theorem fW.pass {w w3 w4:World} {b R:Nat} {pre post:List Value} {t:TypeId} {v v':rI} {r:gT × fy} {s:fy} {vv:Value} {xs:Array Value} (hb:Below w.heap.size w w3) (hX:eD w3 R xs 49) (hR:w.heap.size <=R) (hRb:R≠b) (h3:fM w3 b pre post t v s)
  (hs:fM w4 b pre post t v' r.2) (ht:kP v v' b w3 w4) (ho:dS 52 2 fD w4 w3.heap.size vv r.1.dX) (hn:∀g,ez vv g ->¬ v'.own b g) (a1 a2 a3:Int) (h1:r.1.kind=a1) (h2:r.1.ky=a2) (h4:r.1.fn=a3):
  fW b pre post t v r w (.returned (.agg #[.int .i64 a1, .int .i64 a2, .int .i64 a3,vv])) (lh w4 R a1 a2 a3 vv):=by
 subst h1 h2 h4;have Lx:=gh w4 R r.1.kind r.1.ky r.1.fn vv;have hX4:=hX.keeps ht.1 (h3.not hX hRb (by decide));have hRn:¬ v'.own b R:=hs.not hX4 hRb (by decide);have hRl:=hX.lt;refine⟨v',vv,rfl,hs.keeps Lx (fun g hg e=>hRn (e▸hg)),⟨((dU.dW hb).trans ht.1 (fun g hg=> .inl hg)).trans Lx (fun i hi=> .inr (by omega)),fun g hg=>(ht.2 g hg).imp id (fun h=>aQ hb.size h)⟩,?_,hn⟩;exact(ho.keeps Lx (fun g hg e=>by have:=(ey ho hg).1;omega)).lower hb.size
theorem jd {w2:World} {R:Nat} {xs:Array Value} (hx:eD w2 R xs 49) (hs:xs.size=4) (a b c:Int) (v:Value):
  (loadVar 49 ⟨R,0,none⟩).run prog (lh w2 R a b c v)= .ok (.agg #[.int .i64 a, .int .i64 b, .int .i64 c,v]) (lh w2 R a b c v):=by
 obtain⟨x0,x1,x2,x3,rfl⟩:∃x0 x1 x2 x3,xs=#[x0,x1,x2,x3]:=by
  match xs,hs with
  | ⟨[x0,x1,x2,x3]⟩,_=>exact⟨x0,x1,x2,x3,rfl⟩
 exact(hx.tN _ _ _ _).nR
theorem xM (w:World) (k n:Int):ee 2 fD (w.alloc (.cells #[.int .i64 k, .int .i64 n] 52)) (.slice (some ⟨w.heap.size,0,none⟩) 1 1) [⟨k,n⟩]:=by
 have hx:=eD.new w #[.int .i64 k, .int .i64 n] 52;have ho:dS 52 2 fD (w.alloc (.cells #[.int .i64 k, .int .i64 n] 52)) w.heap.size (.slice (some ⟨w.heap.size,0,none⟩) 1 1) [⟨k,n⟩]:=
  ⟨by simp [fD], .inr ⟨w.heap.size,1,_,rfl,ag _,hx,by simp,by simp [maxLen],by simp,by simp [fD]⟩⟩
 exact ho.fH fI
theorem KV (w:World) (D X b g J cap:Nat) (pre post:List Value) (t:TypeId) (uv:Value) (us:List (Value × Value)) (u:Value × Value) (dX:List eX) (lo:List eR) (f:eR) (asks:Int) (a:Int) (bb:Int) (al:Option Addr) (nl cl:Nat)
  (LS:fM w b pre post t ⟨uv, .slice (some ⟨g,0,none⟩) (lo.length+1) cap,us++[u]⟩ ⟨dX,lo++[f],asks⟩) (hd:kb w D X b pre.length g (lo.length*5) J) (hn:dX.length <=50000) (OG: -1 <=f.pc/\f.pc <=1000000):
  Calls prog 58 #[.pointer (some ⟨D,0,none⟩), .agg #[.int .i64 1, .int .i64 a, .int .i64 bb, .slice al nl cl]] w (fW b pre post t ⟨uv, .slice (some ⟨g,0,none⟩) (lo.length+1) cap,us++[u]⟩ (kS dX [] ⟨dX,lo++[f],asks⟩ lo f) w):=by
 have LG:=(an w.heap.size w).alloc (ag _) (.cells #[.int .i64 1, .int .i64 a, .int .i64 bb, .slice al nl cl] 39);have Lw:=LG.alloc LG.size (.cells #[.int .i64 0, .int .i64 0, .int .i64 0, .slice none 0 0] 49);have Oy:=(eD.new w #[.int .i64 1, .int .i64 a, .int .i64 bb, .slice al nl cl] 39).alloc (.cells #[.int .i64 0, .int .i64 0, .int .i64 0, .slice none 0 0] 49);have Np:=eD.new (w.alloc (.cells #[.int .i64 1, .int .i64 a, .int .i64 bb, .slice al nl cl] 39)) #[.int .i64 0, .int .i64 0, .int .i64 0, .slice none 0 0] 49;rw [aC]at Np;have Mf:=LS.jq.lt;have HI:=V Oy;have HX:=V Np;have HB:=V Lw;have Lz:=V (LS.below Lw);have HD:=V (hd.below Lw);clear LG Lw Oy Np LS hd;go_enter func58,ntmps58;go_wp2_with fail;obtain⟨w2,NO⟩:∃w2,w2=(w.alloc (.cells #[.int .i64 1, .int .i64 a, .int .i64 bb, .slice al nl cl] 39)).alloc (.cells #[.int .i64 0, .int .i64 0, .int .i64 0, .slice none 0 0] 49):=⟨_,rfl⟩;rw [<- NO]at HI HX HB Lz HD⊢;have HSZ:=V (show w2.heap.size=w.heap.size+1+1 by rw [NO];simp);clear NO;refine(rb _ D X b g J cap pre post t uv us u dX [] [] lo f asks _ 0 rfl (by rw [bO];exact Lz.out) HD.out (ee.nil _) (by simp;omega) OG).mono ?_;rw [bO];rintro e w4 ⟨v',vv,rfl,Nb,NA,MW,OO⟩;obtain⟨r,hr⟩:∃r,(kS dX [] ⟨dX,lo++[f],asks⟩ lo f)=r:=⟨_,rfl⟩;rw [hr]at Nb MW⊢;have ND:=V hr;obtain⟨Qf,Qg,rfl,-,-⟩:=MW.slice;have N9:=V (HX.out.keeps NA.1 (Lz.out.not HX.out (by omega) (by decide)));have PI:=V Nb;have Qx:=V NA;have O6:=V MW;have Qy:=V OO;clear Nb NA MW OO hr;simp only [lS];obtain⟨⟨x0,x1,x2,x3⟩,z0,z1,z2,z3⟩:=N9.out.four;go_wp2_with fail;refine aF (ej rfl _ _ rfl (jd N9.out rfl r.1.kind r.1.ky r.1.fn (.slice Qf r.1.dX.length Qg))) rfl ?_;rw [ND.out];exact fW.pass HB.out HX.out (by omega) (by omega) Lz.out PI.out Qx.out O6.out Qy.out _ _ _ rfl rfl rfl
theorem Hw (w:World) (D X b g J cap:Nat) (pre post:List Value) (t:TypeId) (uv:Value) (us:List (Value × Value)) (u:Value × Value) (dX:List eX) (lo:List eR) (f:eR) (asks:Int) (a:Int) (bb:Int) (al:Option Addr) (nl cl:Nat)
  (LS:fM w b pre post t ⟨uv, .slice (some ⟨g,0,none⟩) (lo.length+1) cap,us++[u]⟩ ⟨dX,lo++[f],asks⟩) (hd:kb w D X b pre.length g (lo.length*5) J) (hn:dX.length <=50000) (OG: -1 <=f.pc/\f.pc <=1000000):
  Calls prog 58 #[.pointer (some ⟨D,0,none⟩), .agg #[.int .i64 65, .int .i64 a, .int .i64 bb, .slice al nl cl]] w (fW b pre post t ⟨uv, .slice (some ⟨g,0,none⟩) (lo.length+1) cap,us++[u]⟩ (kS dX [⟨1,a⟩] ⟨dX,lo++[f],asks⟩ lo f) w):=by
 have LG:=(an w.heap.size w).alloc (ag _) (.cells #[.int .i64 65, .int .i64 a, .int .i64 bb, .slice al nl cl] 39);have Lw:=LG.alloc LG.size (.cells #[.int .i64 0, .int .i64 0, .int .i64 0, .slice none 0 0] 49);have Oy:=(eD.new w #[.int .i64 65, .int .i64 a, .int .i64 bb, .slice al nl cl] 39).alloc (.cells #[.int .i64 0, .int .i64 0, .int .i64 0, .slice none 0 0] 49);have Np:=eD.new (w.alloc (.cells #[.int .i64 65, .int .i64 a, .int .i64 bb, .slice al nl cl] 39)) #[.int .i64 0, .int .i64 0, .int .i64 0, .slice none 0 0] 49;rw [aC]at Np;have Mf:=LS.jq.lt;have HI:=V Oy;have HX:=V Np;have HB:=V Lw;have Lz:=V (LS.below Lw);have HD:=V (hd.below Lw);clear LG Lw Oy Np LS hd;have y1:=HI.out.cell 1;simp only [aM,aJ,aT]at y1;go_enter func58,ntmps58;go_wp2_with fail;obtain⟨w2,NO⟩:∃w2,w2=(w.alloc (.cells #[.int .i64 65, .int .i64 a, .int .i64 bb, .slice al nl cl] 39)).alloc (.cells #[.int .i64 0, .int .i64 0, .int .i64 0, .slice none 0 0] 49):=⟨_,rfl⟩;rw [<- NO]at HI HX HB Lz HD⊢;have HSZ:=V (show w2.heap.size=w.heap.size+1+1 by rw [NO];simp);clear NO;clear y1;have hb:=(an w2.heap.size w2).alloc (ag _) (.cells #[.int .i64 1, .int .i64 a] 52);have HP:=V (xM w2 1 a);replace HX:=V (HX.out.below hb HX.out.lt);replace HB:=V (HB.out.trans (hb.mono HB.out.size));replace Lz:=V (Lz.out.below hb);replace HD:=V (HD.out.below hb);clear hb;rw [HSZ.out]at HP;refine(rb _ D X b g J cap pre post t uv us u dX [] [⟨1,a⟩] lo f asks _ 0 rfl (by rw [bO];exact Lz.out) HD.out HP.out (by simp;omega) OG).mono ?_;rw [bO];rintro e w4 ⟨v',vv,rfl,Nb,NA,MW,OO⟩;obtain⟨r,hr⟩:∃r,(kS dX [⟨1,a⟩] ⟨dX,lo++[f],asks⟩ lo f)=r:=⟨_,rfl⟩;rw [hr]at Nb MW⊢;have ND:=V hr;obtain⟨Qf,Qg,rfl,-,-⟩:=MW.slice;have N9:=V (HX.out.keeps NA.1 (Lz.out.not HX.out (by omega) (by decide)));have PI:=V Nb;have Qx:=V NA;have O6:=V MW;have Qy:=V OO;clear Nb NA MW OO hr;simp only [lS];obtain⟨⟨x0,x1,x2,x3⟩,z0,z1,z2,z3⟩:=N9.out.four;go_wp2_with fail;refine aF (ej rfl _ _ rfl (jd N9.out rfl r.1.kind r.1.ky r.1.fn (.slice Qf r.1.dX.length Qg))) rfl ?_;rw [ND.out];exact fW.pass HB.out HX.out (by omega) (by omega) Lz.out PI.out Qx.out O6.out Qy.out _ _ _ rfl rfl rfl
theorem ee.rd {α:Type} {k:Nat} {enc:α ->List Value} {w:World} {C:Nat} {v:Value} {l:List α} (h:ee k enc w v l) (hv:∀a n cap,v= .slice (some a) n cap ->a.block≠C):ee k enc (rZ C w) v l:=by
 obtain⟨a,cap,rfl,h1,h2,h3⟩:=h;refine⟨a,cap,rfl,h1,h2,fun i x hx=>?_⟩;obtain⟨b,off,ha,LD,hc⟩:=h3 i x hx;have hb:b≠C:=by
  subst ha;exact hv _ _ _ rfl
 refine⟨b,off,ha,by unfold rZ;rw [gX];exact LD,fun j u hu=>?_⟩;rw [<- hc j u hu];exact aX (ja w (by simp [hb]))
theorem kG (w:World) (x:Int) (t:TypeId) {C:Nat} (hC:C < w.heap.size):ee 1 eU (rZ C (w.alloc (.cells #[.int .i64 x] t))) (.slice (some ⟨w.heap.size,0,none⟩) 1 1) [x]:=
 (lj w x t).rd (fun a n cap he=>by injection he with e1;injection e1 with e1;subst e1;simp;omega)
theorem AH (w:World) (x y:Int) (t:TypeId) {C:Nat} (hC:C < w.heap.size):ee 1 eU (rZ C (w.alloc (.cells #[.int .i64 x, .int .i64 y] t))) (.slice (some ⟨w.heap.size,0,none⟩) 2 2) [x,y]:=
 (pH w x y t).rd (fun a n cap he=>by injection he with e1;injection e1 with e1;subst e1;simp;omega)
def D9 (C:Nat) (op:Int) (w:World) (e:Ending) (w':World):Prop:=
 ∃v,e= .returned (.tuple #[v, .int .i64 (eQ op).2.1, .bool (eQ op).2.2])/\ee 1 eU (rZ C w') v (eQ op).1/\Below w.heap.size w w'
theorem qL (op:Int) (w:World) (C:Nat) (hC:C < w.heap.size):Calls prog 133 #[.int .i64 op] w (D9 C op w):=by
 have hb:=an w.heap.size w;have Ng:∀w1:World,Below w1.heap.size w1 w1:=fun w1=>an _ _;by_cases q1:op=167
 ·subst q1
  go_enter func133,ntmps133;go_wp2
  go_ret3
  exact⟨_,rfl,kG w 2 _ hC,hb.alloc (ag _) _⟩
 have f1:(op==167)=false:=dR q1;by_cases q2:op=172
 ·subst q2
  go_enter func133,ntmps133;go_wp2
  go_ret3
  exact⟨_,rfl,kG w 1 _ hC,hb.alloc (ag _) _⟩
 have f2:(op==172)=false:=dR q2;by_cases q3:op=173
 ·subst q3
  go_enter func133,ntmps133;go_wp2
  go_ret3
  exact⟨_,rfl,kG w 1 _ hC,hb.alloc (ag _) _⟩
 have f3:(op==173)=false:=dR q3;have HQ:Hid (op≠167/\op≠172/\op≠173):=V ⟨q1,q2,q3⟩;clear q1 q2 q3 Ng;go_enter func133,ntmps133;go_wp2_with fail;refine(qK op _).mono ?_;rintro x w1 ⟨rfl,LG⟩;obtain⟨k,hk⟩:∃k,(sF op).1=k:=⟨_,rfl⟩;obtain⟨l,hl⟩:∃l,(sF op).2=l:=⟨_,rfl⟩;rw [hk,hl];have HK:=V hk;have HL:=V hl;replace hb:=dT hb LG;clear hk hl LG f1 f2 f3;by_cases q4:k=0
 ·have f4:(k==0)=true:=eI q4
  have H4:=V q4;clear q4;go_wp2
  go_ret3
  have:eQ op=([],0,false):=by rw [eQ,az HQ.out.1,az HQ.out.2.1,az HQ.out.2.2,HK.out,aD H4.out]
  exact⟨_,by rw [this];rfl,by rw [this];exact ee.nil _,hb⟩
 have f4:(k==0)=false:=dR q4;have H4:=V (show k≠0 from q4);clear q4;by_cases q5:l=69
 ·have f5:(l==69)=true:=eI q5
  have H5:=V q5;clear q5;go_wp2
  go_ret3
  have:eQ op=([k],1,true):=by rw [eQ,az HQ.out.1,az HQ.out.2.1,az HQ.out.2.2,HK.out,HL.out,az H4.out,aD H5.out]
  exact⟨_,by rw [this];rfl,by rw [this];exact kG _ k _ (by have:=hb.size;omega),hb.alloc hb.size _⟩
 have f5:(l==69)=false:=dR q5;have H5:=V (show l≠69 from q5);clear q5;go_wp2_with fail;refine(iz l 70 79 _).mono ?_;rintro x w2 ⟨rfl,LP⟩;replace hb:=dT hb LP;clear LP f4 f5;cases h6:lN l 70 79 with
 | true=>
  have H6:=V h6;clear h6;go_wp2
  go_ret3
  have:eQ op=([k,k],1,true):=by rw [eQ,az HQ.out.1,az HQ.out.2.1,az HQ.out.2.2,HK.out,HL.out,az H4.out,az H5.out,H6.out];rfl
  exact⟨_,by rw [this];rfl,by rw [this];exact AH _ k k _ (by have:=hb.size;omega),hb.alloc hb.size _⟩
 | false=>
  have H6:=V h6;clear h6;go_wp2_with fail;refine(iz l 103 105 _).mono ?_;rintro x w3 ⟨rfl,LP⟩;replace hb:=dT hb LP;clear LP;cases h7:lN l 103 105 with
  | true=>
   have H7:=V h7;clear h7;go_wp2
   go_ret3
   have:eQ op=([k],k,true):=by rw [eQ,az HQ.out.1,az HQ.out.2.1,az HQ.out.2.2,HK.out,HL.out,az H4.out,az H5.out,H6.out,H7.out];rfl
   exact⟨_,by rw [this];rfl,by rw [this];exact kG _ k _ (by have:=hb.size;omega),hb.alloc hb.size _⟩
  | false=>
   have H7:=V h7;clear h7;go_wp2
   go_ret3
   have:eQ op=([k,k],k,true):=by rw [eQ,az HQ.out.1,az HQ.out.2.1,az HQ.out.2.2,HK.out,HL.out,az H4.out,az H5.out,H6.out,H7.out];rfl
   exact⟨_,by rw [this];rfl,by rw [this];exact AH _ k k _ (by have:=hb.size;omega),hb.alloc hb.size _⟩
def pQ (n:Int):Prop:= -2147483648 <=n/\n <=2147483647
theorem pQ.may {n:Int} (h:pQ n):decide (eX.may ⟨1,n⟩)=true:=ay (by
 unfold eX.may;exact .inr ⟨rfl,h.1,h.2⟩)
theorem F7 (n:Int):pQ (wrap32 n):=by
 unfold pQ wrap32;omega
theorem Du (n:Int) (w:World):Calls prog 62 #[.int .i64 1, .int .i64 n] w (fi (.agg #[.int .i64 1, .int .i64 (wrap32 n)]) w):=by
 have hw:=F7 n;unfold pQ at hw;go_enter func62,ntmps62;go_wp2_with fail;exact aF (ej rfl _ _ rfl (eD.new w #[.int .i64 1, .int .i64 (wrap32 n)] 52).lq) rfl ⟨rfl,(an _ _).alloc (ag _) _⟩
theorem BL (w:World):Calls prog 234 #[.int .i64 1] w (fi (.int .i64 32) w):=by
 go_enter func234,ntmps234;go_wp2;go_ret;exact⟨rfl,an _ _⟩
theorem Gn (n:Int) (w:World):Calls prog 231 #[.agg #[.int .i64 1, .int .i64 n]] w (fun e w'=>∃x,e= .returned (.int .u64 x)/\Below w.heap.size w w'):=by
 go_enter func231,ntmps231;go_wp2;go_ret;exact⟨_,rfl,(an _ _).alloc (ag _) _⟩
theorem zd (w:World) (a b c d:Int):Below w.heap.size w ((w.alloc (.cells #[.int .i64 a, .int .i64 b] 52)).alloc (.cells #[.int .i64 c, .int .i64 d] 52))/\
  eD ((w.alloc (.cells #[.int .i64 a, .int .i64 b] 52)).alloc (.cells #[.int .i64 c, .int .i64 d] 52)) w.heap.size #[.int .i64 a, .int .i64 b] 52/\
  eD ((w.alloc (.cells #[.int .i64 a, .int .i64 b] 52)).alloc (.cells #[.int .i64 c, .int .i64 d] 52)) (w.heap.size+1) #[.int .i64 c, .int .i64 d] 52:=by
 have hb:=(an w.heap.size w).alloc (ag _) (.cells #[.int .i64 a, .int .i64 b] 52);refine⟨hb.alloc hb.size _,(eD.new w _ _).alloc _,?_⟩;have:=eD.new (w.alloc (.cells #[.int .i64 a, .int .i64 b] 52)) #[.int .i64 c, .int .i64 d] 52
 rwa [aC]at this
theorem Gt (m n:Int) (w:World) (hm:pQ m) (hn:pQ n):Calls prog 239 #[.int .i64 106, .agg #[.int .i64 1, .int .i64 m], .agg #[.int .i64 1, .int .i64 n]] w (fi (.int .i64 (m+n)) w):=by
 obtain⟨LR,ha0,Pp⟩:=zd w 1 m 1 n;unfold pQ at hm hn;go_enter func239,ntmps239;go_wp2_with fail;generalize(w.alloc (.cells #[.int .i64 1, .int .i64 m] 52)).alloc (.cells #[.int .i64 1, .int .i64 n] 52)=w1 at LR ha0 Pp⊢;refine(BL w1).mono ?_;rintro e w2 ⟨rfl,hb⟩;replace ha0:=ha0.below hb ha0.lt;replace Pp:=Pp.below hb Pp.lt;replace LR:=LR.trans (hb.mono LR.size);clear hb;obtain⟨x0,x1,-,-⟩:=Pp.two;go_wp2_with fail;clear x0 x1;refine(Gn n w2).mono ?_;rintro e w3 ⟨ux,rfl,hb⟩;replace ha0:=ha0.below hb ha0.lt;replace Pp:=Pp.below hb Pp.lt;replace LR:=LR.trans (hb.mono LR.size);clear hb;obtain⟨x0,x1,-,-⟩:=Pp.two;obtain⟨y0,y1,-,-⟩:=ha0.two;go_wp2;go_ret;exact⟨rfl,LR⟩
def AR (m n:Int) (X Y bl off:Nat) (w:World):Prop:=
 (w.cell? ⟨X,0,none⟩=some (.int .i64 1)/\w.cell? ⟨X,1,none⟩=some (.int .i64 m))/\(w.cell? ⟨Y,0,none⟩=some (.int .i64 1)/\w.cell? ⟨Y,1,none⟩=some (.int .i64 n))/\w.cell? ⟨bl,off,none⟩=some (.int .i64 1)/\w.cell? ⟨bl,off+1,none⟩=some (.int .i64 1)
theorem AR.below {m n:Int} {X Y bl off:Nat} {w w':World} (h:AR m n X Y bl off w) (hb:Below w.heap.size w w'):AR m n X Y bl off w':=by
 obtain⟨⟨h1,h2⟩,⟨h3,h4⟩,h5,h6⟩:=h;have k:=(Ext.dW hb).1;exact⟨⟨k _ _ h1,k _ _ h2⟩,⟨k _ _ h3,k _ _ h4⟩,k _ _ h5,k _ _ h6⟩
theorem I0 (m n:Int) (w:World) (hm:pQ m) (hn:pQ n):Calls prog 135 #[.int .i64 106, .agg #[.int .i64 1, .int .i64 m], .agg #[.int .i64 1, .int .i64 n]] w (fi (.tuple #[.agg #[.int .i64 1, .int .i64 (wrap32 (m+n))], .int .i64 0]) w):=by
 obtain⟨LR,ha0,Pp⟩:=zd w 1 m 1 n;have HB:=V (LR.alloc LR.size (.cells #[.int .i64 0, .int .i64 0] 52));have HA:=V (ha0.alloc (.cells #[.int .i64 0, .int .i64 0] 52));have HC:=V (Pp.alloc (.cells #[.int .i64 0, .int .i64 0] 52));have hx:=eD.new ((w.alloc (.cells #[.int .i64 1, .int .i64 m] 52)).alloc (.cells #[.int .i64 1, .int .i64 n] 52)) #[.int .i64 0, .int .i64 0] 52;simp only [aC]at hx;have HX:=V hx;clear LR ha0 Pp hx;go_enter func135,ntmps135;go_wp2_with fail;generalize((w.alloc (.cells #[.int .i64 1, .int .i64 m] 52)).alloc (.cells #[.int .i64 1, .int .i64 n] 52)).alloc (.cells #[.int .i64 0, .int .i64 0] 52)=w1 at HB HA HC HX⊢;refine(qL 106 w1 (w.heap.size+1+1) HX.out.lt).mono ?_;rintro e w2 ⟨kv,rfl,hl,hb⟩;have hk:eQ 106=([1,1],1,true):=by decide+kernel
 rw [hk]at hl⊢;obtain⟨bl,off,cap,rfl,-,L7,-,N3⟩:=ee.at (i:=0) hl rfl;obtain⟨bl2,LX,LA,he,-,-,-,MF⟩:=ee.at (i:=1) hl rfl;injection he with M5 _ _;injection M5 with M5;injection M5 with M5 M9;subst M5 M9;have k0:w2.cell? ⟨bl,off,none⟩=some (.int .i64 1):=(fP (N3 0 _ rfl)).2;have Mf:bl≠w.heap.size+1+1:=by
  have:=(fP (N3 0 _ rfl)).1;simpa using this
 have k1:w2.cell? ⟨bl,off+1,none⟩=some (.int .i64 1):=(fP (MF 0 _ rfl)).2;replace HA:=V (HA.out.below hb HA.out.lt).drew;replace HC:=V (HC.out.below hb HC.out.lt).drew;replace HX:=V (HX.out.below hb HX.out.lt).drew;replace HB:=V (HB.out.trans (hb.mono HB.out.size)).drew;have hS:AR m n w.heap.size (w.heap.size+1) bl off w2.drew:=⟨⟨HA.out.two.1,HA.out.two.2.1⟩,⟨HC.out.two.1,HC.out.two.2.1⟩,k0,k1⟩;have HS:=V hS;clear k0 k1 N3 MF hl hb hk;go_wp2_with fail;refine ea (AR m n w.heap.size (w.heap.size+1) bl off) (up 0 9 ((9,false)::up 10 4 ((14,false)::up 15 18 []))) (by kernel_rfl) (by kernel_rfl) hS ?_;clear hS;generalize w2.drew=w3 at HB HA HC HX HS⊢;iterate 9 (first | (apply sk rfl rfl;simp only [pt]) | (apply dV rfl rfl rfl;·(rintro w' ⟨⟨t0,t1⟩,⟨t2,t3⟩,t4,t5⟩;go_wp2;exact⟨rfl,rfl,rfl⟩)))
 refine dZ rfl rfl ?_;go_wp2_with fail;refine(lK ⟨1,m⟩ w3).mono ?_;rintro e w4 ⟨rfl,hb⟩;have hq:decide (eX.may ⟨1,m⟩)=true:=hm.may;rw [hq];replace HA:=V (HA.out.below hb HA.out.lt);replace HC:=V (HC.out.below hb HC.out.lt);replace HX:=V (HX.out.below hb HX.out.lt);replace HB:=V (HB.out.trans (hb.mono HB.out.size));replace HS:=V (HS.out.below hb);clear hb hq;go_wp2_with fail;refine⟨HS.out,?_⟩;iterate 4 (first | (apply sk rfl rfl;simp only [pt]) | (apply dV rfl rfl rfl;·(rintro w' ⟨⟨t0,t1⟩,⟨t2,t3⟩,t4,t5⟩;go_wp2;exact⟨rfl,rfl,rfl⟩)))
 refine dZ rfl rfl ?_;go_wp2_with fail;refine(lK ⟨1,n⟩ w4).mono ?_;rintro e w5 ⟨rfl,hb⟩;have hq:decide (eX.may ⟨1,n⟩)=true:=hn.may;rw [hq];replace HA:=V (HA.out.below hb HA.out.lt);replace HC:=V (HC.out.below hb HC.out.lt);replace HX:=V (HX.out.below hb HX.out.lt);replace HB:=V (HB.out.trans (hb.mono HB.out.size));replace HS:=V (HS.out.below hb);clear hb hq;go_wp2_with fail;refine⟨HS.out,?_⟩;iterate 18 (first | (apply sk rfl rfl;simp only [pt]) | (apply dV rfl rfl rfl;·(rintro w' ⟨⟨t0,t1⟩,⟨t2,t3⟩,t4,t5⟩;go_wp2;exact⟨rfl,rfl,rfl⟩)))
 refine eF ?_;refine aA ?_;go_wp2_with fail;refine(qK 106 w5).mono ?_;rintro e w6 ⟨rfl,hb⟩;have hk:sF 106=(1,106):=by decide+kernel
 rw [hk];replace HA:=V (HA.out.below hb HA.out.lt);replace HC:=V (HC.out.below hb HC.out.lt);replace HX:=V (HX.out.below hb HX.out.lt);replace HB:=V (HB.out.trans (hb.mono HB.out.size));replace HS:=V (HS.out.below hb);clear hb hk;go_wp2_with fail;refine(iz 106 109 112 w6).mono ?_;rintro e w7 ⟨rfl,hb⟩;have hk:lN 106 109 112=false:=by decide
 rw [hk];replace HA:=V (HA.out.below hb HA.out.lt).drew;replace HC:=V (HC.out.below hb HC.out.lt).drew;replace HX:=V (HX.out.below hb HX.out.lt).drew;replace HB:=V (HB.out.trans (hb.mono HB.out.size)).drew;have hS:=(HS.out.below hb).below (an _ _).drew;clear hb hk;go_wp2_with fail;refine ea (AR m n w.heap.size (w.heap.size+1) bl off) (up 0 5 ((5,false)::(6,false)::(7,false)::(8,true)::[])) (by kernel_rfl) (by kernel_rfl) hS ?_;replace HS:=V hS;clear hS;generalize w7.drew=w8 at HB HA HC HX HS⊢;iterate 5 (first | (apply sk rfl rfl;simp only [pt]) | (apply dV rfl rfl rfl;·(rintro w' ⟨⟨t0,t1⟩,⟨t2,t3⟩,t4,t5⟩;go_wp2;exact⟨rfl,rfl,rfl⟩)))
 refine dZ rfl rfl ?_;go_wp2_with fail;refine(Gt m n w8 hm hn).mono ?_;rintro e w9 ⟨rfl,hb⟩;replace HX:=V (HX.out.below hb HX.out.lt);replace HB:=V (HB.out.trans (hb.mono HB.out.size));replace HS:=V (HS.out.below hb);clear hb;go_wp2_with fail;refine⟨HS.out,?_⟩;refine dZ rfl rfl ?_;go_wp2_with fail;refine(Du (m+n) w9).mono ?_;rintro e w10 ⟨rfl,hb⟩;replace HX:=V (HX.out.below hb HX.out.lt);replace HB:=V (HB.out.trans (hb.mono HB.out.size));replace HS:=V (HS.out.below hb);clear hb;go_wp2_with fail;refine⟨HS.out,?_⟩;refine dZ rfl rfl ?_;obtain⟨x0,x1,z0,z1⟩:=HX.out.two;go_wp2_with fail;have Lx:=fp w10 (w.heap.size+1+1) (.int .i64 1) (.int .i64 (wrap32 (m+n)));have Ov:=HX.out.mL (.int .i64 1) (.int .i64 (wrap32 (m+n)));have hS:AR m n w.heap.size (w.heap.size+1) bl off ((w10.setCell ⟨w.heap.size+1+1,0,none⟩ (.int .i64 1)).setCell ⟨w.heap.size+1+1,1,none⟩ (.int .i64 (wrap32 (m+n)))):=by
  obtain⟨⟨h1,h2⟩,⟨h3,h4⟩,h5,h6⟩:=HS.out;have key:∀{a:Addr} {v:Value},w10.cell? a=some v ->a.block≠w.heap.size+1+1 ->((w10.setCell ⟨w.heap.size+1+1,0,none⟩ (.int .i64 1)).setCell ⟨w.heap.size+1+1,1,none⟩ (.int .i64 (wrap32 (m+n)))).cell? a=some v:=
   fun ha MO=>(Lx.cell (aO w10 _ ha) MO).trans ha
  exact⟨⟨key h1 (by simp;omega),key h2 (by simp;omega)⟩,⟨key h3 (by simp),key h4 (by simp)⟩,key h5 Mf,key h6 Mf⟩
 refine⟨hS,?_⟩;have HL:=V Ov.lq;have Nw:=V (HB.out.trans (Lx.below HB.out.size (fun i hi=>by omega)));clear Lx Ov x0 x1 z0 z1 hS;iterate 1 (first | (apply sk rfl rfl;simp only [pt]) | (apply dV rfl rfl rfl;·(rintro w' ⟨⟨t0,t1⟩,⟨t2,t3⟩,t4,t5⟩;go_wp2;exact⟨rfl,rfl,rfl⟩)))
 refine eF ?_;refine aA ?_;go_wp2_with fail;exact aF (eY rfl _ _ rfl HL.out) rfl ⟨rfl,Nw.out⟩
section
def qR (j:Nat):List Edge ->Bool
 | []=>true
 | e::es=>(!Region.binds .any e || decide (e.on < j))&&qR j es
def BN:Nat ->List Oper ->Bool
 | _,[]=>true
 | j,o::rest=>qR j o.after.toList&&BN (j+1) rest
def jC (L:Array Bool):List Edge ->Prop
 | []=>True
 | e::es=>(Region.binds .any e=true ->L.getD e.on false=true)/\jC L es
def pG (P:Program) (ops:List Oper) (Q:Exit ->Act ->World ->Prop) (I:Array Bool ->Act ->World ->Prop):Nat ->List Oper ->Prop
 | _,[]=>True
 | j,o::rest=>(∀L a w,L.size=ops.length ->L.getD j false=false ->jC L o.after.toList ->I L a w ->kM ops o.guard a=true/\wpList P #[] (nT Q (fun _=>True) (I (L.setIfInBounds j true))) [bare o] a w)/\pG P ops Q I (j+1) rest
theorem so {j:Nat}:∀{l:List Edge},qR j l=true ->∀e∈l,Region.binds .any e=true ->e.on < j
 | [],_,e,he,_=>by cases he
 | x::l,h,e,he,hb=>by
  simp only [qR,bG,Bool.or_eq_true,dO,cW]at h;rcases bH.1 he with rfl | he
  ·rcases h.1 with h1 | h1
   ·rw [h1]at hb;cases hb
   ·exact h1
  ·exact so h.2 e he hb
theorem zk:∀{l:List Oper} {k j:Nat} {o:Oper},BN k l=true ->l[j]?=some o ->qR (k+j) o.after.toList=true
 | [],_,j,o,_,h=>by simp at h
 | x::l,k,0,o,hk,h=>by
  simp only [BN,bG]at hk;simp at h;subst h;exact hk.1
 | x::l,k,j+1,o,hk,h=>by
  simp only [BN,bG]at hk;have:=zk (j:=j) hk.2 (by simpa using h)
  rwa [show k+1+j=k+(j+1)by omega]at this
theorem tA {L:Array Bool}:∀{l:List Edge},(∀e∈l,Region.binds .any e=true ->L.getD e.on false=true) ->jC L l
 | [],_=>trivial
 | x::l,h=>⟨h x (by simp),tA (fun e he=>h e (by simp [he]))⟩
theorem pS {P:Program} {ops:List Oper} {Q:Exit ->Act ->World ->Prop} {I:Array Bool ->Act ->World ->Prop}:∀{l:List Oper} {k j:Nat} {o:Oper},pG P ops Q I k l ->l[j]?=some o ->
  ∀L a w,L.size=ops.length ->L.getD (k+j) false=false ->jC L o.after.toList ->I L a w ->kM ops o.guard a=true/\wpList P #[] (nT Q (fun _=>True) (I (L.setIfInBounds (k+j) true))) [bare o] a w
 | [],_,_,_,_,h=>by simp at h
 | x::l,k,0,o,hk,h=>by
  simp at h;subst h;exact hk.1
 | x::l,k,j+1,o,hk,h=>by
  have:=pS (j:=j) hk.2 (by simpa using h)
  rwa [show k+1+j=k+(j+1)by omega]at this
theorem wP {ops:List Oper} {L:Array Bool} (hac:BN 0 ops=true) (hL:L.size=ops.length) (h:Region.ready .any ops.toArray L=[]):∀n i,i < n ->i < ops.length ->L.getD i false=true
 | 0,i,hi,_=>by omega
 | n+1,i,hi,hil=>by
  cases hb:L.getD i false with
  | true=>rfl
  | false=>
   exfalso;have hmem:i∈Region.ready .any ops.toArray L:=by
    unfold Region.ready;rw [List.mem_filter];refine⟨by simpa using hil,?_⟩;have h1:L.getD i true=false:=by
     have hs:i < L.size:=by omega
     simpa [hs] using hb
    rw [h1];have h2:=aq hil;simp only [aM,h2,bq,dE,Bool.not_false,cd,Array.all_eq_true'];intro e he;have h3:=zk hac h2;rw [bR]at h3;cases NN:Region.binds .any e with
    | false=>rfl
    | true=>
     have h4:=so h3 e (by simpa using he) NN;have h5:=wP hac hL h n e.on (by omega) (by omega);simp [h5]
   rw [h]at hmem;cases hmem
theorem uX {P:Program} {ops:List Oper} {Q:Exit ->Act ->World ->Prop} (I:Array Bool ->Act ->World ->Prop) (hac:BN 0 ops=true) (step:pG P ops Q I 0 ops) (last:∀L a w,(∀j,j < ops.length ->L.getD j false=true) ->I L a w ->Q .normal a w):
  ∀(fuel:Nat) (L:Array Bool) (a:Act) (w:World),L.size=ops.length ->((List.range ops.length).filter fun i=> !L.getD i false).length <=fuel ->I L a w ->wpAnyH P .any ops.toArray Q (fun _=>True) fuel L a w
 | 0,L,a,w,hL,hc,h=>by
  have Mo:∀j,j < ops.length ->L.getD j false=true:=by
   intro j hj;cases hb:L.getD j false with
   | true=>rfl
   | false=>
    have:j∈(List.range ops.length).filter fun i=> !L.getD i false:=by
     rw [List.mem_filter];exact⟨by simpa using hj,by rw [hb];rfl⟩
    have h0:=aH (Nat.le_zero.1 hc);rw [h0]at this;cases this
  refine⟨?_,last L a w Mo h⟩;unfold Region.ready;rw [List.filter_eq_nil_iff];intro i hi;have hi2:i < ops.length:=by simpa using hi
  have h1:=Mo i hi2;have hs:i < L.size:=by omega
  have h2:L.getD i true=true:=by simpa [hs] using h1
  rw [h2];simp
 | fuel+1,L,a,w,hL,hc,h=>by
  refine⟨fun hr=>last L a w (fun j hj=>wP hac hL hr (j+1) j (by omega) hj) h,fun j hj=>?_⟩;obtain⟨hjun,o,ho,Mo⟩:=mem_ready.1 hj;have L4:ops[j]?=some o:=by simpa using ho
  have hjl:j < ops.length:=(aG.1 L4).1;have LS:=pS step L4 L a w hL (by
   have hs:j < L.size:=by omega
   simpa [hs] using hjun) (tA fun e he hb=>by
   have:=Mo e (by simpa using he) hb;simpa using this) h
  rw [bR]at LS;refine mK (S:=fun _=>True) (K:=I (L.setIfInBounds j true)) trivial (fun a w _ hk=>?_) ⟨o,by simpa [nU] using L4, .inl ⟨LS.1,LS.2⟩⟩;refine uX I hac step last fuel _ a w (by simpa using hL) ?_ hk;have LD:((List.range ops.length).filter fun i=> !(L.setIfInBounds j true).getD i false).length < ((List.range ops.length).filter fun i=> !L.getD i false).length:=by
   have hsub:((List.range ops.length).filter fun i=> !(L.setIfInBounds j true).getD i false)=(((List.range ops.length).filter fun i=> !L.getD i false).filter fun i=>decide (i≠j)):=by
    rw [List.filter_filter];apply List.filter_congr;intro i hi;have hi2:i < L.size:=by rw [hL];simpa using hi
    by_cases q:i=j
    ·subst q
     simp [hi2]
    ·have q2:j≠i:=fun e=>q e.symm
     simp [hi2,q,q2]
   rw [hsub];refine List.length_filter_lt_length_iff_exists.2 ⟨j,?_,by simp⟩;rw [List.mem_filter];refine⟨by simpa using hjl,?_⟩;have hs:j < L.size:=by omega
   simp [hs]at hjun⊢;exact hjun
  omega
theorem uQ {P:Program} {ops:List Oper} {Q:Exit ->Act ->World ->Prop} {id:Nat} {a:Act} {w:World} (I:Array Bool ->Act ->World ->Prop) (hm:P.follows .mixedOrders=true) (hac:BN 0 ops=true)
  (h0:I (Array.replicate ops.length false) a w.drew) (step:pG P ops (NoPanic Q) I 0 ops) (last:∀L a w,(∀j,j < ops.length ->L.getD j false=true) ->I L a w ->NoPanic Q .normal a w):(Code.region id ops.toArray true).wp P Q a w:=by
 refine wp_region_noPanic (wp_region_held (S:=fun _=>True) hm ?_);refine uX I hac step last _ _ a _ (by simp) ?_ (by simpa using h0);refine aQ (List.length_filter_le _ _) (by simp)
theorem iK {n k:Nat} (h:(Array.replicate n false).getD k false=true):False:=by
 by_cases hk:k < n
 ·simp [hk]at h
 ·simp [hk]at h
def mG (i j B:Nat) (Rf xs:Array Value) (t:TypeId) (L:Array Bool) (s:Value) (w:World):Prop:=
 (L.getD j false=true ->L.getD i false=true)/\(L.getD i false=true ->∃T,s= .pointer (some ⟨T,0,none⟩)/\B <=T/\eD w T (if L.getD j false=true then xs else Rf) t)
section
variable {i j k B:Nat} {Rf xs:Array Value} {t:TypeId} {L:Array Bool} {s:Value} {w w':World}
theorem jr (h:k≠i):(L.setIfInBounds i true).getD k false=L.getD k false:=by
 have h2:i≠k:=fun e=>h e.symm;by_cases hk:k < L.size
 ·simp [hk,h2]
 ·simp [hk]
theorem mG.start (n:Nat):mG i j B Rf xs t (Array.replicate n false) s w:=⟨fun h=>(iK h).elim,fun h=>(iK h).elim⟩
theorem mG.below (h:mG i j B Rf xs t L s w) (hb:Below w.heap.size w w'):mG i j B Rf xs t L s w':=by
 refine⟨h.1,fun g=>?_⟩;obtain⟨T,h1,h2,h3⟩:=h.2 g;exact⟨T,h1,h2,h3.below hb h3.lt⟩
theorem mG.other (h:mG i j B Rf xs t L s w) (h1:i≠k) (h2:j≠k) (hb:Below w.heap.size w w'):mG i j B Rf xs t (L.setIfInBounds k true) s w':=by
 have:=h.below hb;unfold mG;rw [jr h1,jr h2];exact this
theorem mG.alloc (h:mG i j B Rf xs t L s w) (hi:L.getD i false=false) (hij:j≠i) (hB:B <=w.heap.size):mG i j B Rf xs t (L.setIfInBounds i true) (.pointer (some ⟨w.heap.size,0,none⟩)) (w.alloc (.cells Rf t)):=by
 have hj:L.getD j false=false:=by
  cases hb:L.getD j false with
  | false=>rfl
  | true=>rw [h.1 hb]at hi;cases hi
 unfold mG;rw [jr hij,hj];refine⟨fun g=>(by cases g),fun _=>⟨_,rfl,hB,eD.new w Rf t⟩⟩
theorem mG.open (h:mG i j B Rf xs t L s w) (hi:L.getD i false=true) (hj:L.getD j false=false):∃T,s= .pointer (some ⟨T,0,none⟩)/\B <=T/\eD w T Rf t:=by
 obtain⟨T,h1,h2,h3⟩:=h.2 hi;rw [hj]at h3;exact⟨T,h1,h2,h3⟩
theorem mG.store {T n:Nat} (hi:L.getD i false=true) (hij:i≠j) (hL:L.size=n) (hjn:j < n) (hB:B <=T) (hk:eD w' T xs t):mG i j B Rf xs t (L.setIfInBounds j true) (.pointer (some ⟨T,0,none⟩)) w':=by
 have hj:(L.setIfInBounds j true).getD j false=true:=by simp [hL,hjn]
 unfold mG;rw [jr hij,hj,hi];exact⟨fun _=>rfl,fun _=>⟨T,rfl,hB,hk⟩⟩
theorem mG.all (h:mG i j B Rf xs t L s w) (hi:L.getD i false=true) (hj:L.getD j false=true):∃T,s= .pointer (some ⟨T,0,none⟩)/\B <=T/\eD w T xs t:=by
 obtain⟨T,h1,h2,h3⟩:=h.2 hi;rw [hj]at h3;exact⟨T,h1,h2,h3⟩
end
theorem ep {L:Array Bool} {j k:Nat} {p:Prop} (h:L.getD k false=true ->p) (hk:k≠j):(L.setIfInBounds j true).getD k false=true ->p:=fun g=>h (by rwa [jr hk]at g)
end
def wN (op:Int):Prop:=¬ (op=40\/op=41\/op=44\/op=45\/op=54\/op=55\/op=58\/op=63\/op=64)
theorem Cl (op:Int) (No:wN op) (w:World):Calls prog 128 #[.int .i64 op] w (fi (.tuple #[.int .i64 0, .int .i64 0]) w):=by
 unfold wN at No;have f40:(op==40)=false:=dR (by omega);have f41:(op==41)=false:=dR (by omega);have f44:(op==44)=false:=dR (by omega);have f45:(op==45)=false:=dR (by omega);have f54:(op==54)=false:=dR (by omega);have f55:(op==55)=false:=dR (by omega);have f58:(op==58)=false:=dR (by omega);clear No;go_enter func128,ntmps128;go_wp2
 go_ret2
 exact⟨rfl,an _ _⟩
def Lq (w0 w:World) (T:Nat) (r:eX):Prop:=Below w0.heap.size w0 w/\w0.heap.size <=T/\eD w T #[.int .i64 r.kind, .int .i64 r.n] 52
def uD (dX:List eX) (r:eX) (tr:Int) (s:fy) (lo:List eR) (f:eR):gT × fy:=if tr=0 then kS dX [r] s lo f else(.CO tr,s)
def KZ (WB:World) (D S0:Nat) (op:Int) (x y r:eX) (tr:Int) (L:Array Bool) (a0:Act) (w0':World):Prop:=(fun a' w'=>∃(NT:Value) (NU:Value) (NV:Value) (NW:Value) (NX:Value) (NY:Value) (NZ:Value) (N0:Value) (N1:Value) (N2:Value) (QI:Value) (QJ:Value),a'=fr (.pointer (some ⟨D,0,none⟩)::gs a' 1 2 (.pointer (some ⟨S0,0,none⟩):: .pointer (some ⟨S0+1,0,none⟩)::gs a' 5 9 (QI::QJ::gs a' 16 112 (N0::NT::NU::NV::NW::NX::NY::NZ::N1::N2::gs a' 138 8 []))))/\Below WB.heap.size WB w'/\mG 10 11 WB.heap.size #[.int .i64 0, .int .i64 0] #[.int .i64 r.kind, .int .i64 r.n] 52 L QI w'/\(L.getD 0 false=true ->NT= .pointer (some ⟨S0,0,none⟩))/\(L.getD 1 false=true ->NU= .int .i64 op)/\(L.getD 2 false=true ->NV= .pointer (some ⟨D,0,none⟩))/\(L.getD 3 false=true ->NW= .agg #[.int .i64 x.kind, .int .i64 x.n])/\(L.getD 4 false=true ->NX= .pointer (some ⟨D,0,none⟩))/\(L.getD 5 false=true ->NY= .agg #[.int .i64 y.kind, .int .i64 y.n])/\(L.getD 6 false=true ->NZ= .tuple #[.agg #[.int .i64 r.kind, .int .i64 r.n], .int .i64 tr])/\(L.getD 7 false=true ->N0= .tuple #[.agg #[.int .i64 r.kind, .int .i64 r.n], .int .i64 tr])/\(L.getD 8 false=true ->N1= .agg #[.int .i64 r.kind, .int .i64 r.n])/\(L.getD 9 false=true ->N2= .int .i64 tr)/\(L.getD 12 false=true ->QJ= .int .i64 tr)) a0 w0'
theorem DO (w:World) (D X b g J cap:Nat) (pre post:List Value) (t:TypeId) (uv:Value) (us:List (Value × Value)) (u:Value × Value) (dX:List eX) (x y:eX) (lo:List eR) (fq:eR) (asks:Int) (op a bb:Int) (al:Option Addr) (nl cl:Nat) (r:eX) (tr:Int)
  (LS:fM w b pre post t ⟨uv, .slice (some ⟨g,0,none⟩) (lo.length+1) cap,us++[u]⟩ ⟨dX++[x,y],lo++[fq],asks⟩) (hd:kb w D X b pre.length g (lo.length*5) J) (hn:dX.length <=50000) (OG: -1 <=fq.pc/\fq.pc <=1000000)
  (No:wN op) (hk:(eQ op).1.length=2) (htwo:∀w',Calls prog 135 #[.int .i64 op, .agg #[.int .i64 x.kind, .int .i64 x.n], .agg #[.int .i64 y.kind, .int .i64 y.n]] w' (fi (.tuple #[.agg #[.int .i64 r.kind, .int .i64 r.n], .int .i64 tr]) w')):
  Calls prog 97 #[.pointer (some ⟨D,0,none⟩), .agg #[.int .i64 op, .int .i64 a, .int .i64 bb, .slice al nl cl]] w (fW b pre post t ⟨uv, .slice (some ⟨g,0,none⟩) (lo.length+1) cap,us++[u]⟩ (uD dX r tr ⟨dX++[x,y],lo++[fq],asks⟩ lo fq) w):=by
 have LG:=(an w.heap.size w).alloc (ag _) (.cells #[.int .i64 op, .int .i64 a, .int .i64 bb, .slice al nl cl] 39);have Lw:=LG.alloc LG.size (.cells #[.int .i64 0, .int .i64 0, .int .i64 0, .slice none 0 0] 49);have Oy:=(eD.new w #[.int .i64 op, .int .i64 a, .int .i64 bb, .slice al nl cl] 39).alloc (.cells #[.int .i64 0, .int .i64 0, .int .i64 0, .slice none 0 0] 49);have Np:=eD.new (w.alloc (.cells #[.int .i64 op, .int .i64 a, .int .i64 bb, .slice al nl cl] 39)) #[.int .i64 0, .int .i64 0, .int .i64 0, .slice none 0 0] 49;rw [aC]at Np;have Mf:=LS.jq.lt;have HI:=V Oy;have HX:=V Np;have HB:=V Lw;have Lz:=V (LS.below Lw);have HD:=V (hd.below Lw);have HTWO:=V htwo;have HK:=V hk;have HOP:=V No;have f63:(op==63)=false:=dR (by unfold wN at No;omega);have f64:(op==64)=false:=dR (by unfold wN at No;omega);have y0:=Oy.cell 0;simp only [aM,aJ]at y0;clear LG Lw Oy Np LS hd htwo hk No;go_enter func97,ntmps97;go_wp2_with fail;obtain⟨w2,NO⟩:∃w2,w2=(w.alloc (.cells #[.int .i64 op, .int .i64 a, .int .i64 bb, .slice al nl cl] 39)).alloc (.cells #[.int .i64 0, .int .i64 0, .int .i64 0, .slice none 0 0] 49):=⟨_,rfl⟩;rw [<- NO]at HI HX HB Lz HD⊢;clear NO y0;refine(Cl op HOP.out w2).mono ?_;rintro e w1 ⟨rfl,hb⟩;replace HX:=V (HX.out.below hb HX.out.lt);replace HI:=V (HI.out.below hb HI.out.lt);replace HB:=V (HB.out.trans (hb.mono HB.out.size));replace Lz:=V (Lz.out.below hb);replace HD:=V (HD.out.below hb);clear hb;have y0:=HI.out.cell 0;simp only [aM,aJ]at y0;go_wp2_with fail;clear y0;refine(qL op w1 w.heap.size HI.out.lt).mono ?_;rintro e w0 ⟨kv,rfl,hl,hb⟩;obtain⟨ak,ck,rfl,-,-⟩:=hl.sl;rw [HK.out];replace HX:=V (HX.out.below hb HX.out.lt);replace HI:=V (HI.out.below hb HI.out.lt);replace HB:=V (HB.out.trans (hb.mono HB.out.size));replace Lz:=V (Lz.out.below hb);replace HD:=V (HD.out.below hb);clear hb;clear hl;go_wp2_with fail;refine wp_cut (fun a' w'=>∃(T:Nat),a'=fr (.pointer (some ⟨D,0,none⟩)::gs a' 1 3 (.pointer (some ⟨w.heap.size+1,0,none⟩)::gs a' 5 9 (.pointer (some ⟨T,0,none⟩):: .int .i64 tr::gs a' 16 130 [])))/\Lq w0 w' T r) ?_ ?_
 ·have HI:=V HI.out.drew
  have HD:=V HD.out.drew;have Lz:=V Lz.out.drew;have HW:=V (an w0.heap.size w0).drew;clear HX HB;refine uQ (KZ w0.drew D w.heap.size op x y r tr) (by kernel_rfl) (by kernel_rfl) ?_ ?_ ?_
  ·exact⟨_,_,_,_,_,_,_,_,_,_,_,_,rfl,an _ _,mG.start _,fun h=>(iK h).elim,fun h=>(iK h).elim,fun h=>(iK h).elim,fun h=>(iK h).elim,fun h=>(iK h).elim,fun h=>(iK h).elim,fun h=>(iK h).elim,fun h=>(iK h).elim,fun h=>(iK h).elim,fun h=>(iK h).elim,fun h=>(iK h).elim⟩
  ·generalize w0.drew=w3 at HI HD Lz HW⊢
   refine⟨?_,?_,?_,?_,?_,?_,?_,?_,?_,?_,?_,?_,?_,trivial⟩
   ·rintro L a' w' hL hnl Mu ⟨NT,NU,NV,NW,NX,NY,NZ,N0,N1,N2,QI,QJ,Lv,hB,hX,h0,h1,h2,h3,h4,h5,h6,h7,h8,h9,NP⟩
    dsimp only [fr,gs]at Lv;generalize slot a'=f' at Lv;subst Lv;have L5:=an w'.heap.size w';refine⟨rfl,?_⟩;dsimp only [bare];go_wp2;refine⟨trivial,?_⟩;exact⟨_,_,_,_,_,_,_,_,_,_,_,_,rfl,hB,hX.other (by decide) (by decide) L5,fun _=>rfl,ep h1 (by decide),ep h2 (by decide),ep h3 (by decide),ep h4 (by decide),ep h5 (by decide),ep h6 (by decide),ep h7 (by decide),ep h8 (by decide),ep h9 (by decide),ep NP (by decide)⟩
   ·rintro L a' w' hL hnl Mu ⟨NT,NU,NV,NW,NX,NY,NZ,N0,N1,N2,QI,QJ,Lv,hB,hX,h0,h1,h2,h3,h4,h5,h6,h7,h8,h9,NP⟩
    dsimp only [fr,gs]at Lv;generalize slot a'=f' at Lv;subst Lv;simp only [jC]at Mu;obtain⟨e0,-⟩:=Mu;obtain rfl:=h0 (e0 rfl);have y0:=HI.out.below hB HI.out.lt;have y0:=y0.cell 0;simp only [aM,aJ]at y0;have L5:=an w'.heap.size w';refine⟨rfl,?_⟩;dsimp only [bare];go_wp2;refine⟨trivial,?_⟩;exact⟨_,_,_,_,_,_,_,_,_,_,_,_,rfl,hB,hX.other (by decide) (by decide) L5,fun _=>rfl,fun _=>rfl,ep h2 (by decide),ep h3 (by decide),ep h4 (by decide),ep h5 (by decide),ep h6 (by decide),ep h7 (by decide),ep h8 (by decide),ep h9 (by decide),ep NP (by decide)⟩
   ·rintro L a' w' hL hnl Mu ⟨NT,NU,NV,NW,NX,NY,NZ,N0,N1,N2,QI,QJ,Lv,hB,hX,h0,h1,h2,h3,h4,h5,h6,h7,h8,h9,NP⟩
    dsimp only [fr,gs]at Lv;generalize slot a'=f' at Lv;subst Lv;have L5:=an w'.heap.size w';refine⟨rfl,?_⟩;dsimp only [bare];go_wp2;refine⟨trivial,?_⟩;exact⟨_,_,_,_,_,_,_,_,_,_,_,_,rfl,hB,hX.other (by decide) (by decide) L5,ep h0 (by decide),ep h1 (by decide),fun _=>rfl,ep h3 (by decide),ep h4 (by decide),ep h5 (by decide),ep h6 (by decide),ep h7 (by decide),ep h8 (by decide),ep h9 (by decide),ep NP (by decide)⟩
   ·rintro L a' w' hL hnl Mu ⟨NT,NU,NV,NW,NX,NY,NZ,N0,N1,N2,QI,QJ,Lv,hB,hX,h0,h1,h2,h3,h4,h5,h6,h7,h8,h9,NP⟩
    dsimp only [fr,gs]at Lv;generalize slot a'=f' at Lv;subst Lv;simp only [jC]at Mu;obtain⟨e2,-⟩:=Mu;obtain rfl:=h2 (e2 rfl);refine⟨rfl,?_⟩;dsimp only [bare];go_wp2_with fail;refine(Ha w' D b pre.length 0 uv dX x y (HD.out.below hB).d1 (Lz.out.below hB).c0 (Lz.out.below hB).dX).mono ?_;rintro e w2 ⟨rfl,L5⟩;go_wp2;refine⟨trivial,?_⟩;exact⟨_,_,_,_,_,_,_,_,_,_,_,_,rfl,hB.trans (L5.mono hB.size),hX.other (by decide) (by decide) L5,ep h0 (by decide),ep h1 (by decide),fun _=>rfl,fun _=>rfl,ep h4 (by decide),ep h5 (by decide),ep h6 (by decide),ep h7 (by decide),ep h8 (by decide),ep h9 (by decide),ep NP (by decide)⟩
   ·rintro L a' w' hL hnl Mu ⟨NT,NU,NV,NW,NX,NY,NZ,N0,N1,N2,QI,QJ,Lv,hB,hX,h0,h1,h2,h3,h4,h5,h6,h7,h8,h9,NP⟩
    dsimp only [fr,gs]at Lv;generalize slot a'=f' at Lv;subst Lv;have L5:=an w'.heap.size w';refine⟨rfl,?_⟩;dsimp only [bare];go_wp2;refine⟨trivial,?_⟩;exact⟨_,_,_,_,_,_,_,_,_,_,_,_,rfl,hB,hX.other (by decide) (by decide) L5,ep h0 (by decide),ep h1 (by decide),ep h2 (by decide),ep h3 (by decide),fun _=>rfl,ep h5 (by decide),ep h6 (by decide),ep h7 (by decide),ep h8 (by decide),ep h9 (by decide),ep NP (by decide)⟩
   ·rintro L a' w' hL hnl Mu ⟨NT,NU,NV,NW,NX,NY,NZ,N0,N1,N2,QI,QJ,Lv,hB,hX,h0,h1,h2,h3,h4,h5,h6,h7,h8,h9,NP⟩
    dsimp only [fr,gs]at Lv;generalize slot a'=f' at Lv;subst Lv;simp only [jC]at Mu;obtain⟨e4,-⟩:=Mu;obtain rfl:=h4 (e4 rfl);refine⟨rfl,?_⟩;dsimp only [bare];go_wp2_with fail;refine(ze w' D b pre.length 0 uv (dX++[x]) y (HD.out.below hB).d1 (Lz.out.below hB).c0 (by rw [aK];exact(Lz.out.below hB).dX)).mono ?_;rintro e w2 ⟨rfl,L5⟩;go_wp2;refine⟨trivial,?_⟩;exact⟨_,_,_,_,_,_,_,_,_,_,_,_,rfl,hB.trans (L5.mono hB.size),hX.other (by decide) (by decide) L5,ep h0 (by decide),ep h1 (by decide),ep h2 (by decide),ep h3 (by decide),fun _=>rfl,fun _=>rfl,ep h6 (by decide),ep h7 (by decide),ep h8 (by decide),ep h9 (by decide),ep NP (by decide)⟩
   ·rintro L a' w' hL hnl Mu ⟨NT,NU,NV,NW,NX,NY,NZ,N0,N1,N2,QI,QJ,Lv,hB,hX,h0,h1,h2,h3,h4,h5,h6,h7,h8,h9,NP⟩
    dsimp only [fr,gs]at Lv;generalize slot a'=f' at Lv;subst Lv;simp only [jC]at Mu;obtain⟨e1,e3,e5,-⟩:=Mu;obtain rfl:=h1 (e1 rfl);obtain rfl:=h3 (e3 rfl);obtain rfl:=h5 (e5 rfl);refine⟨rfl,?_⟩;dsimp only [bare];go_wp2_with fail;refine(HTWO.out w').mono ?_;rintro e w2 ⟨rfl,L5⟩;go_wp2;refine⟨trivial,?_⟩;exact⟨_,_,_,_,_,_,_,_,_,_,_,_,rfl,hB.trans (L5.mono hB.size),hX.other (by decide) (by decide) L5,ep h0 (by decide),fun _=>rfl,ep h2 (by decide),fun _=>rfl,ep h4 (by decide),fun _=>rfl,fun _=>rfl,ep h7 (by decide),ep h8 (by decide),ep h9 (by decide),ep NP (by decide)⟩
   ·rintro L a' w' hL hnl Mu ⟨NT,NU,NV,NW,NX,NY,NZ,N0,N1,N2,QI,QJ,Lv,hB,hX,h0,h1,h2,h3,h4,h5,h6,h7,h8,h9,NP⟩
    dsimp only [fr,gs]at Lv;generalize slot a'=f' at Lv;subst Lv;simp only [jC]at Mu;obtain⟨e6,-⟩:=Mu;obtain rfl:=h6 (e6 rfl);have L5:=an w'.heap.size w';refine⟨rfl,?_⟩;dsimp only [bare];go_wp2;refine⟨trivial,?_⟩;exact⟨_,_,_,_,_,_,_,_,_,_,_,_,rfl,hB,hX.other (by decide) (by decide) L5,ep h0 (by decide),ep h1 (by decide),ep h2 (by decide),ep h3 (by decide),ep h4 (by decide),ep h5 (by decide),fun _=>rfl,fun _=>rfl,ep h8 (by decide),ep h9 (by decide),ep NP (by decide)⟩
   ·rintro L a' w' hL hnl Mu ⟨NT,NU,NV,NW,NX,NY,NZ,N0,N1,N2,QI,QJ,Lv,hB,hX,h0,h1,h2,h3,h4,h5,h6,h7,h8,h9,NP⟩
    dsimp only [fr,gs]at Lv;generalize slot a'=f' at Lv;subst Lv;simp only [jC]at Mu;obtain⟨e7,-⟩:=Mu;obtain rfl:=h7 (e7 rfl);have L5:=an w'.heap.size w';refine⟨rfl,?_⟩;dsimp only [bare];go_wp2;refine⟨trivial,?_⟩;exact⟨_,_,_,_,_,_,_,_,_,_,_,_,rfl,hB,hX.other (by decide) (by decide) L5,ep h0 (by decide),ep h1 (by decide),ep h2 (by decide),ep h3 (by decide),ep h4 (by decide),ep h5 (by decide),ep h6 (by decide),fun _=>rfl,fun _=>rfl,ep h9 (by decide),ep NP (by decide)⟩
   ·rintro L a' w' hL hnl Mu ⟨NT,NU,NV,NW,NX,NY,NZ,N0,N1,N2,QI,QJ,Lv,hB,hX,h0,h1,h2,h3,h4,h5,h6,h7,h8,h9,NP⟩
    dsimp only [fr,gs]at Lv;generalize slot a'=f' at Lv;subst Lv;simp only [jC]at Mu;obtain⟨e7,-⟩:=Mu;obtain rfl:=h7 (e7 rfl);have L5:=an w'.heap.size w';refine⟨rfl,?_⟩;dsimp only [bare];go_wp2;refine⟨trivial,?_⟩;exact⟨_,_,_,_,_,_,_,_,_,_,_,_,rfl,hB,hX.other (by decide) (by decide) L5,ep h0 (by decide),ep h1 (by decide),ep h2 (by decide),ep h3 (by decide),ep h4 (by decide),ep h5 (by decide),ep h6 (by decide),fun _=>rfl,ep h8 (by decide),fun _=>rfl,ep NP (by decide)⟩
   ·rintro L a' w' hL hnl Mu ⟨NT,NU,NV,NW,NX,NY,NZ,N0,N1,N2,QI,QJ,Lv,hB,hX,h0,h1,h2,h3,h4,h5,h6,h7,h8,h9,NP⟩
    dsimp only [fr,gs]at Lv;generalize slot a'=f' at Lv;subst Lv;have L5:=(an w'.heap.size w').alloc (ag _) (.cells #[.int .i64 0, .int .i64 0] 52);refine⟨rfl,?_⟩;dsimp only [bare];go_wp2;refine⟨trivial,?_⟩;exact⟨_,_,_,_,_,_,_,_,_,_,_,_,rfl,hB.trans (L5.mono hB.size),hX.alloc hnl (by decide) hB.size,ep h0 (by decide),ep h1 (by decide),ep h2 (by decide),ep h3 (by decide),ep h4 (by decide),ep h5 (by decide),ep h6 (by decide),ep h7 (by decide),ep h8 (by decide),ep h9 (by decide),ep NP (by decide)⟩
   ·rintro L a' w' hL hnl Mu ⟨NT,NU,NV,NW,NX,NY,NZ,N0,N1,N2,QI,QJ,Lv,hB,hX,h0,h1,h2,h3,h4,h5,h6,h7,h8,h9,NP⟩
    dsimp only [fr,gs]at Lv;generalize slot a'=f' at Lv;subst Lv;simp only [jC]at Mu;obtain⟨e10,e8,-⟩:=Mu;obtain rfl:=h8 (e8 rfl);obtain⟨T,rfl,hT,hTX⟩:=hX.open (e10 rfl) hnl;obtain⟨x0,x1,z0,z1⟩:=hTX.two;have Lx:=fp w' T (.int .i64 r.kind) (.int .i64 r.n);have Ov:=hTX.mL (.int .i64 r.kind) (.int .i64 r.n);refine⟨rfl,?_⟩;dsimp only [bare];go_wp2;refine⟨trivial,?_⟩;exact⟨_,_,_,_,_,_,_,_,_,_,_,_,rfl,hB.trans (Lx.below hB.size (fun i hi=>by omega)),mG.store (e10 rfl) (by decide) hL (by decide) hT (Ov),ep h0 (by decide),ep h1 (by decide),ep h2 (by decide),ep h3 (by decide),ep h4 (by decide),ep h5 (by decide),ep h6 (by decide),ep h7 (by decide),fun _=>rfl,ep h9 (by decide),ep NP (by decide)⟩
   ·rintro L a' w' hL hnl Mu ⟨NT,NU,NV,NW,NX,NY,NZ,N0,N1,N2,QI,QJ,Lv,hB,hX,h0,h1,h2,h3,h4,h5,h6,h7,h8,h9,NP⟩
    dsimp only [fr,gs]at Lv;generalize slot a'=f' at Lv;subst Lv;simp only [jC]at Mu;obtain⟨e9,-⟩:=Mu;obtain rfl:=h9 (e9 rfl);have L5:=an w'.heap.size w';refine⟨rfl,?_⟩;dsimp only [bare];go_wp2;refine⟨trivial,?_⟩;exact⟨_,_,_,_,_,_,_,_,_,_,_,_,rfl,hB,hX.other (by decide) (by decide) L5,ep h0 (by decide),ep h1 (by decide),ep h2 (by decide),ep h3 (by decide),ep h4 (by decide),ep h5 (by decide),ep h6 (by decide),ep h7 (by decide),ep h8 (by decide),fun _=>rfl,fun _=>rfl⟩
  ·generalize w0.drew=w3 at HI HD Lz HW⊢
   rintro L a' w' Mo ⟨NT,NU,NV,NW,NX,NY,NZ,N0,N1,N2,QI,QJ,Lv,hB,hX,h0,h1,h2,h3,h4,h5,h6,h7,h8,h9,NP⟩;dsimp only [fr,gs]at Lv;generalize slot a'=f' at Lv;subst Lv;obtain rfl:=h0 (Mo 0 (by decide));obtain rfl:=h1 (Mo 1 (by decide));obtain rfl:=h2 (Mo 2 (by decide));obtain rfl:=h3 (Mo 3 (by decide));obtain rfl:=h4 (Mo 4 (by decide));obtain rfl:=h5 (Mo 5 (by decide));obtain rfl:=h6 (Mo 6 (by decide));obtain rfl:=h7 (Mo 7 (by decide));obtain rfl:=h8 (Mo 8 (by decide));obtain rfl:=h9 (Mo 9 (by decide));obtain rfl:=NP (Mo 12 (by decide));obtain⟨T,rfl,hT,hTX⟩:=hX.all (Mo 10 (by decide)) (Mo 11 (by decide));have:=HW.out.size;exact⟨rfl,T,rfl,HW.out.trans (hB.mono HW.out.size),by omega,hTX⟩
 ·skip
  rintro a' w1 ⟨T,Lv,hJ⟩;dsimp only [fr,gs]at Lv;generalize slot a'=f at Lv;subst Lv;obtain⟨hb,hT1,hTX⟩:=hJ;replace HX:=V (HX.out.below hb HX.out.lt);replace HI:=V (HI.out.below hb HI.out.lt);replace HB:=V (HB.out.trans (hb.mono HB.out.size));replace Lz:=V (Lz.out.below hb);replace HD:=V (HD.out.below hb);clear hb;by_cases q:tr=0
  ·have f1:=kX q
   have HWR:=V (show uD dX r tr ⟨dX++[x,y],lo++[fq],asks⟩ lo fq=kS dX [r] ⟨dX++[x,y],lo++[fq],asks⟩ lo fq by unfold uD;rw [if_pos q]);clear q;obtain⟨x0,x1,-,-⟩:=hTX.two;go_wp2_with fail;clear x0 x1;have hb:=(an w1.heap.size w1).alloc (ag _) (.cells #[.int .i64 r.kind, .int .i64 r.n] 52);have HP:=V (xM w1 r.kind r.n);replace HX:=V (HX.out.below hb HX.out.lt);replace HI:=V (HI.out.below hb HI.out.lt);replace HB:=V (HB.out.trans (hb.mono HB.out.size));replace Lz:=V (Lz.out.below hb);replace HD:=V (HD.out.below hb);clear hb;refine(rb _ D X b g J cap pre post t uv us u dX [x,y] [r] lo fq asks _ 2 rfl Lz.out HD.out HP.out (by simp;omega) OG).mono ?_;rintro e w4 ⟨v',vv,rfl,Nb,NA,MW,OO⟩;obtain⟨r',hr'⟩:∃r',(kS dX [r] ⟨dX++[x,y],lo++[fq],asks⟩ lo fq)=r':=⟨_,rfl⟩;rw [hr']at Nb MW⊢;have ND:=V hr';obtain⟨Qf,Qg,rfl,-,-⟩:=MW.slice;have N9:=V (HX.out.keeps NA.1 (Lz.out.not HX.out (by omega) (by decide)));have PI:=V Nb;have Qx:=V NA;have O6:=V MW;have Qy:=V OO;clear Nb NA MW OO hr';simp only [lS];obtain⟨⟨x0,x1,x2,x3⟩,z0,z1,z2,z3⟩:=N9.out.four;go_wp2_with fail;refine aF (ej rfl _ _ rfl (jd N9.out rfl r'.1.kind r'.1.ky r'.1.fn (.slice Qf r'.1.dX.length Qg))) rfl ?_;rw [HWR.out,ND.out];exact fW.pass HB.out HX.out (by omega) (by omega) Lz.out PI.out Qx.out O6.out Qy.out _ _ _ rfl rfl rfl
  ·have f1:=fa q
   have HWR:=V (show uD dX r tr ⟨dX++[x,y],lo++[fq],asks⟩ lo fq=(.CO tr,⟨dX++[x,y],lo++[fq],asks⟩)by unfold uD;rw [if_neg q]);clear q;go_wp2_with fail;refine(GJ _ tr).mono ?_;rintro e w3 ⟨rfl,hb⟩;replace HX:=V (HX.out.below hb HX.out.lt);replace HI:=V (HI.out.below hb HI.out.lt);replace HB:=V (HB.out.trans (hb.mono HB.out.size));replace Lz:=V (Lz.out.below hb);replace HD:=V (HD.out.below hb);clear hb;obtain⟨⟨x0,x1,x2,x3⟩,z0,z1,z2,z3⟩:=HX.out.four;go_wp2_with fail;refine aF (ej rfl _ _ rfl (jd HX.out rfl 4 tr 0 (.slice none 0 0))) rfl ?_;rw [HWR.out];exact fW.pass HB.out HX.out (by omega) (by omega) Lz.out Lz.out (kP.refl _ _ _) (dS.nil _ _) (fun g hg=>by simp [ez,Value.ownBlock]at hg) 4 tr 0 rfl rfl rfl
def KX (I:Nat) (a:Int) (w:World):Prop:=w.cell? ⟨I,0,none⟩=some (.int .i64 32)/\w.cell? ⟨I,1,none⟩=some (.int .i64 a)
theorem Ir (w:World) (D X b g J cap:Nat) (pre post:List Value) (t:TypeId) (uv:Value) (us:List (Value × Value)) (u:Value × Value) (dX:List eX) (lo:List eR) (f:eR) (asks:Int) (k:Nat) (x:eX) (bb:Int) (al:Option Addr) (nl cl:Nat)
  (LS:fM w b pre post t ⟨uv, .slice (some ⟨g,0,none⟩) (lo.length+1) cap,us++[u]⟩ ⟨dX,lo++[f],asks⟩) (hd:kb w D X b pre.length g (lo.length*5) J) (hn:dX.length <=50000) (OG: -1 <=f.pc/\f.pc <=1000000) (hx:f.locals[k]?=some x):
  Calls prog 58 #[.pointer (some ⟨D,0,none⟩), .agg #[.int .i64 32, .int .i64 (k:Int), .int .i64 bb, .slice al nl cl]] w (fW b pre post t ⟨uv, .slice (some ⟨g,0,none⟩) (lo.length+1) cap,us++[u]⟩ (kS dX [x] ⟨dX,lo++[f],asks⟩ lo f) w):=by
 have LG:=(an w.heap.size w).alloc (ag _) (.cells #[.int .i64 32, .int .i64 (k:Int), .int .i64 bb, .slice al nl cl] 39);have Lw:=LG.alloc LG.size (.cells #[.int .i64 0, .int .i64 0, .int .i64 0, .slice none 0 0] 49);have Oy:=(eD.new w #[.int .i64 32, .int .i64 (k:Int), .int .i64 bb, .slice al nl cl] 39).alloc (.cells #[.int .i64 0, .int .i64 0, .int .i64 0, .slice none 0 0] 49);have Np:=eD.new (w.alloc (.cells #[.int .i64 32, .int .i64 (k:Int), .int .i64 bb, .slice al nl cl] 39)) #[.int .i64 0, .int .i64 0, .int .i64 0, .slice none 0 0] 49;rw [aC]at Np;have Mf:=LS.jq.lt;have HI:=V Oy;have HX:=V Np;have HB:=V Lw;have Lz:=V (LS.below Lw);have HD:=V (hd.below Lw);clear LG Lw Oy Np LS hd;have HXL:=V hx;have Mi:=(aG.1 hx).1;clear hx;go_enter func58,ntmps58;go_wp2_with fail;have hS:KX w.heap.size (k:Int) _:=⟨HI.out.drew.cell 0,HI.out.drew.cell 1⟩;refine ea (KX w.heap.size (k:Int)) (up 0 4 ((8,true)::(9,true)::(4,false)::(5,true)::(6,true)::(7,false)::(10,true)::(11,false)::(12,false)::(13,false)::(14,false)::[])) (by kernel_rfl) (by kernel_rfl) hS ?_;replace HI:=V HI.out.drew;replace HX:=V HX.out.drew;replace HB:=V HB.out.drew;replace Lz:=V Lz.out.drew;replace HD:=V HD.out.drew;clear hS;obtain⟨w2,NO⟩:∃w2,w2=((w.alloc (.cells #[.int .i64 32, .int .i64 k, .int .i64 bb, .slice al nl cl] 39)).alloc (.cells #[.int .i64 0, .int .i64 0, .int .i64 0, .slice none 0 0] 49)).drew:=⟨_,rfl⟩;rw [<- NO]at HI HX HB Lz HD⊢;clear NO;have HSI:=V (show∀w',eD w' w.heap.size #[.int .i64 32, .int .i64 (k:Int), .int .i64 bb, .slice al nl cl] 39 ->KX w.heap.size (k:Int) w' from fun w' h=>⟨h.cell 0,h.cell 1⟩);iterate 6 (first | (apply sk rfl rfl;simp only [pt]) | (apply dV rfl rfl rfl;·(rintro w' ⟨t0,t1⟩;go_wp2;exact⟨rfl,rfl,rfl⟩)))
 obtain⟨⟨-,-,p2,-,-⟩,Lv,-,-,-,-,-⟩:=Lz.out.cells;obtain⟨bl,offl,Oo,hu1,-,hcapm,PW,hlc⟩:=ee.at (Lv.1.fH fI) HXL.out;rw [hu1]at p2;have y0:=hlc 0 _ rfl;have y1:=hlc 1 _ rfl;rw [aI]at y0;have d2:=HD.out.d2;clear hlc Lv PW;refine dZ rfl rfl ?_;go_wp2_with fail;refine⟨HSI.out _ HI.out,?_⟩;iterate 2 (first | (apply sk rfl rfl;simp only [pt]) | (apply dV rfl rfl rfl;·(rintro w' ⟨t0,t1⟩;go_wp2;exact⟨rfl,rfl,rfl⟩)))
 refine dZ rfl rfl ?_;go_wp2_with fail;refine⟨HSI.out _ HI.out,?_⟩;iterate 1 (first | (apply sk rfl rfl;simp only [pt]) | (apply dV rfl rfl rfl;·(rintro w' ⟨t0,t1⟩;go_wp2;exact⟨rfl,rfl,rfl⟩)))
 refine dZ rfl rfl ?_;go_wp2_with fail;refine⟨HSI.out _ HI.out,?_⟩;clear d2 p2 y0 y1;refine dZ rfl rfl ?_;go_wp2_with fail;have hb:=(an w2.heap.size w2).alloc (ag _) (.cells #[.int .i64 x.kind, .int .i64 x.n] 52);have HP:=V (xM w2 x.kind x.n);replace HI:=V (HI.out.below hb HI.out.lt);replace HX:=V (HX.out.below hb HX.out.lt);replace HB:=V (HB.out.trans (hb.mono HB.out.size));replace Lz:=V (Lz.out.below hb);replace HD:=V (HD.out.below hb);clear hb;refine⟨HSI.out _ HI.out,?_⟩;refine dZ rfl rfl ?_;go_wp2_with fail;refine(rb _ D X b g J cap pre post t uv us u dX [] [x] lo f asks _ 0 rfl (by rw [bO];exact Lz.out) HD.out HP.out (by simp;omega) OG).mono ?_;rw [bO];rintro e w4 ⟨v',vv,rfl,Nb,NA,MW,OO⟩;obtain⟨r,hr⟩:∃r,(kS dX [x] ⟨dX,lo++[f],asks⟩ lo f)=r:=⟨_,rfl⟩;rw [hr]at Nb MW⊢;have ND:=V hr;obtain⟨Qf,Qg,rfl,-,-⟩:=MW.slice;have N9:=V (HX.out.keeps NA.1 (Lz.out.not HX.out (by omega) (by decide)));have HI4:=V (HI.out.keeps NA.1 (Lz.out.not HI.out (by omega) (by decide)));have PI:=V Nb;have Qx:=V NA;have O6:=V MW;have Qy:=V OO;clear Nb NA MW OO hr;simp only [lS];go_wp2_with fail;refine⟨HSI.out _ HI4.out,?_⟩;refine dZ rfl rfl ?_;obtain⟨⟨x0,x1,x2,x3⟩,z0,z1,z2,z3⟩:=N9.out.four;go_wp2_with fail;refine⟨HSI.out _ (HI4.out.keeps (gh w4 (w.heap.size+1) r.1.kind r.1.ky r.1.fn (.slice Qf r.1.dX.length Qg)) (by omega)),?_⟩;refine eF ?_;refine aA ?_;go_wp2_with fail;refine aF (ej rfl _ _ rfl (jd N9.out rfl r.1.kind r.1.ky r.1.fn (.slice Qf r.1.dX.length Qg))) rfl ?_;rw [ND.out];exact fW.pass HB.out HX.out (by omega) (by omega) Lz.out PI.out Qx.out O6.out Qy.out _ _ _ rfl rfl rfl
def kR (op:Int):Prop:=¬ (op=0\/op=1\/op=2\/op=3\/op=4\/op=5\/op=11\/op=26\/op=27\/op=32\/op=33\/op=34\/op=35\/op=36\/op=65\/op=66)
theorem JI (w:World) (D b g cap:Nat) (pre post:List Value) (t:TypeId) (uv:Value) (us:List (Value × Value)) (u:Value × Value) (dX:List eX) (lo:List eR) (f:eR) (asks:Int) (op a:Int) (r0:gT × fy) (bb:Int) (al:Option Addr) (nl cl:Nat)
  (LS:fM w b pre post t ⟨uv, .slice (some ⟨g,0,none⟩) (lo.length+1) cap,us++[u]⟩ ⟨dX,lo++[f],asks⟩) (No:kR op)
  (hwork:∀w',Below w.heap.size w w' ->Calls prog 97 #[.pointer (some ⟨D,0,none⟩), .agg #[.int .i64 op, .int .i64 a, .int .i64 bb, .slice al nl cl]] w' (fW b pre post t ⟨uv, .slice (some ⟨g,0,none⟩) (lo.length+1) cap,us++[u]⟩ r0 w')):
  Calls prog 58 #[.pointer (some ⟨D,0,none⟩), .agg #[.int .i64 op, .int .i64 a, .int .i64 bb, .slice al nl cl]] w (fW b pre post t ⟨uv, .slice (some ⟨g,0,none⟩) (lo.length+1) cap,us++[u]⟩ r0 w):=by
 have f0:(op==0)=false:=dR (by unfold kR at No;omega);have f1:(op==1)=false:=dR (by unfold kR at No;omega);have f2:(op==2)=false:=dR (by unfold kR at No;omega);have f3:(op==3)=false:=dR (by unfold kR at No;omega);have f4:(op==4)=false:=dR (by unfold kR at No;omega);have f5:(op==5)=false:=dR (by unfold kR at No;omega);have f11:(op==11)=false:=dR (by unfold kR at No;omega);have f26:(op==26)=false:=dR (by unfold kR at No;omega);have f27:(op==27)=false:=dR (by unfold kR at No;omega);have f32:(op==32)=false:=dR (by unfold kR at No;omega);have f33:(op==33)=false:=dR (by unfold kR at No;omega);have f34:(op==34)=false:=dR (by unfold kR at No;omega);have f35:(op==35)=false:=dR (by unfold kR at No;omega);have f36:(op==36)=false:=dR (by unfold kR at No;omega);have f65:(op==65)=false:=dR (by unfold kR at No;omega);have f66:(op==66)=false:=dR (by unfold kR at No;omega);have HWK:=V hwork;clear No hwork;have LG:=(an w.heap.size w).alloc (ag _) (.cells #[.int .i64 op, .int .i64 a, .int .i64 bb, .slice al nl cl] 39);have Lw:=LG.alloc LG.size (.cells #[.int .i64 0, .int .i64 0, .int .i64 0, .slice none 0 0] 49);have Oy:=(eD.new w #[.int .i64 op, .int .i64 a, .int .i64 bb, .slice al nl cl] 39).alloc (.cells #[.int .i64 0, .int .i64 0, .int .i64 0, .slice none 0 0] 49);have Np:=eD.new (w.alloc (.cells #[.int .i64 op, .int .i64 a, .int .i64 bb, .slice al nl cl] 39)) #[.int .i64 0, .int .i64 0, .int .i64 0, .slice none 0 0] 49;rw [aC]at Np;have Mf:=LS.jq.lt;have HI:=V Oy;have HX:=V Np;have HB:=V Lw;have Lz:=V (LS.below Lw);clear LG Lw Oy Np LS;have y0:=HI.out.cell 0;have y1:=HI.out.cell 1;have y2:=HI.out.cell 2;have y3:=HI.out.cell 3;simp only [aM,aJ,aT]at y0 y1 y2 y3;go_enter func58,ntmps58;go_wp2_with fail;refine(HWK.out _ HB.out).mono ?_;clear y0 y1 y2 y3;obtain⟨w2,NO⟩:∃w2,w2=(w.alloc (.cells #[.int .i64 op, .int .i64 a, .int .i64 bb, .slice al nl cl] 39)).alloc (.cells #[.int .i64 0, .int .i64 0, .int .i64 0, .slice none 0 0] 49):=⟨_,rfl⟩;rw [<- NO]at HX HB Lz⊢;clear NO HI;rintro e w4 ⟨v',vv,rfl,Nb,NA,MW,OO⟩;obtain⟨Qf,Qg,rfl,-,-⟩:=MW.slice;have N9:=V (HX.out.keeps NA.1 (Lz.out.not HX.out (by omega) (by decide)));have PI:=V Nb;have Qx:=V NA;have O6:=V MW;have Qy:=V OO;clear Nb NA MW OO;simp only [lS];obtain⟨⟨x0,x1,x2,x3⟩,z0,z1,z2,z3⟩:=N9.out.four;go_wp2_with fail;refine aF (ej rfl _ _ rfl (jd N9.out rfl r0.1.kind r0.1.ky r0.1.fn (.slice Qf r0.1.dX.length Qg))) rfl ?_;exact fW.pass HB.out HX.out (by omega) (by omega) Lz.out PI.out Qx.out O6.out Qy.out _ _ _ rfl rfl rfl
section
def Exit.one (P:Program) (l0:Nat) (r0:Code) (Q:Exit ->Act ->World ->Prop):Exit ->Act ->World ->Prop
 | .goto l,a,w=>l=l0/\r0.wp P (Exit.noGoto Q) a w
 | e,a,w=>Q e a w
def Exit.two (P:Program) (l0:Nat) (r0:Code) (l1:Nat) (r1:Code) (Q:Exit ->Act ->World ->Prop):Exit ->Act ->World ->Prop
 | .goto l,a,w=>(l=l0/\r0.wp P (Exit.noGoto Q) a w)\/(l=l1/\r1.wp P (Exit.one P l0 r0 Q) a w)
 | e,a,w=>Q e a w
theorem xL {P:Program} {a:Act} {w:World} {Q:Exit ->Act ->World ->Prop} {c r0 r1:Code} (l0 l1:Nat) (h0:findLabel c l0=some r0) (h1:findLabel c l1=some r1)
  (h:c.wp P (Exit.two P l0 r0 l1 r1 Q) a w):(Code.scope c).wp P Q a w:=by
 intro b k cs;have hg0:gotoIn l0 (.inScope c::k)=some (.code r0:: .inScope c::k):=by simp [gotoIn,h0]
 have Pm:gotoIn l1 (.inScope c::k)=some (.code r1:: .inScope c::k):=by simp [gotoIn,h1]
 have key0:∀a w,r0.wp P (Exit.noGoto Q) a w ->∃e a' w',Q e a' w'/\Arrives P (lone (b.at a (.code r0:: .inScope c::k)) cs w) b k cs e a' w':=by
  intro a w hr;obtain⟨e,a₁,w₁,hq,Nj⟩:=hr b (.inScope c::k) cs;cases e with
  | normal=>exact⟨.normal,a₁,w₁,hq,Steps.trans Nj (.one step_inScope)⟩
  | exit id=>exact⟨.exit id,a₁,w₁,hq,fun k' hk=>Nj k' (by simp [exitTo,hk])⟩
  | goto l'=>exact hq.elim
  | ret=>exact⟨_,a₁,w₁,hq,Nj⟩
  | panic ch=>exact⟨_,a₁,w₁,hq,Nj⟩
  | outgrown=>exact⟨_,a₁,w₁,hq,Nj⟩
 have key1:∀a w,r1.wp P (Exit.one P l0 r0 Q) a w ->∃e a' w',Q e a' w'/\Arrives P (lone (b.at a (.code r1:: .inScope c::k)) cs w) b k cs e a' w':=by
  intro a w hr;obtain⟨e,a₁,w₁,hq,Nj⟩:=hr b (.inScope c::k) cs;cases e with
  | normal=>exact⟨.normal,a₁,w₁,hq,Steps.trans Nj (.one step_inScope)⟩
  | exit id=>exact⟨.exit id,a₁,w₁,hq,fun k' hk=>Nj k' (by simp [exitTo,hk])⟩
  | goto l'=>
   obtain⟨rfl,hr0⟩:=hq;obtain⟨e₂,a₂,w₂,hq₂,Qz⟩:=key0 a₁ w₁ hr0;exact⟨e₂,a₂,w₂,hq₂, .of_steps (Nj _ hg0) Qz⟩
  | ret=>exact⟨_,a₁,w₁,hq,Nj⟩
  | panic ch=>exact⟨_,a₁,w₁,hq,Nj⟩
  | outgrown=>exact⟨_,a₁,w₁,hq,Nj⟩
 obtain⟨e,a₁,w₁,hq,Nj⟩:=h b (.inScope c::k) cs;cases e with
 | normal=>exact⟨.normal,a₁,w₁,hq, .head dN (Steps.trans Nj (.one step_inScope))⟩
 | exit id=>exact⟨.exit id,a₁,w₁,hq,fun k' hk=> .head dN (Nj k' (by simp [exitTo,hk]))⟩
 | goto l'=>
  rcases hq with⟨rfl,hr⟩ | ⟨rfl,hr⟩
  ·obtain⟨e₂,a₂,w₂,hq₂,Qz⟩:=key0 a₁ w₁ hr
   exact⟨e₂,a₂,w₂,hq₂, .of_steps (.head dN (Nj _ hg0)) Qz⟩
  ·obtain⟨e₂,a₂,w₂,hq₂,Qz⟩:=key1 a₁ w₁ hr
   exact⟨e₂,a₂,w₂,hq₂, .of_steps (.head dN (Nj _ Pm)) Qz⟩
 | ret=>exact⟨_,a₁,w₁,hq, .of_steps (.one dN) Nj⟩
 | panic ch=>exact⟨_,a₁,w₁,hq, .of_steps (.one dN) Nj⟩
 | outgrown=>exact⟨_,a₁,w₁,hq, .of_steps (.one dN) Nj⟩
section
variable {P:Program} {a:Act} {w:World} {Q:Exit ->Act ->World ->Prop} {l0 l1:Nat} {r0 r1:Code}
theorem Dv (h:r0.wp P (Exit.noGoto Q) a w):Exit.two P l0 r0 l1 r1 Q (.goto l0) a w:= .inl ⟨rfl,h⟩
theorem C8 (h:r1.wp P (Exit.one P l0 r0 Q) a w):Exit.two P l0 r0 l1 r1 Q (.goto l1) a w:= .inr ⟨rfl,h⟩
theorem CI:Exit.two P l0 r0 l1 r1 Q .ret a w=Q .ret a w:=rfl
theorem Hz:Exit.one P l0 r0 Q .ret a w=Q .ret a w:=rfl
end
end
theorem D0 {w:World} {D X b o g k:Nat} {j:Nat} (h:eD w D #[.pointer (some ⟨X,0,none⟩), .pointer (some ⟨b,o,none⟩), .pointer (some ⟨g,k,none⟩), .map none] 133):kb (w.setCell ⟨D,3,none⟩ (.map (some j))) D X b o g k j:=by
 have:=h.set 3 (.map (some j));simpa [kb,CP] using this
def FN (Do:Nat ->(Nat ->Array Value) ->Prop) (c:hI) (pc labs:Nat):Prop:=
 (c.body.length <=pc/\Do 60 (fun D=>#[.pointer (some ⟨D,0,none⟩)]))\/∃x,c.body[pc]?=some x/\
  ((¬ (x.op=15\/x.op=12\/x.op=13\/x.op=14\/x.op=16\/x.op=17)/\∀al cl,Do 58 (fun D=>#[.pointer (some ⟨D,0,none⟩), .agg #[.int .i64 x.op, .int .i64 x.a, .int .i64 x.b, .slice al x.l.length cl]]))\/
  (x.op=12/\∃n:Nat,x.a=n/\n < labs/\Do 59 (fun D=>#[.pointer (some ⟨D,0,none⟩), .int .i64 ((labs:Int) - 1 - (n:Int))]))\/
  (x.op=16/\Do 56 (fun D=>#[.pointer (some ⟨D,0,none⟩), .int .i64 x.a, .int .i64 0])))
theorem yt (w:World) (FX:Nat ->Bool) (X b g cap:Nat) (iv:ly) (m:eu) (pre post:List Value) (t:TypeId) (uv:Value) (us:List (Value × Value)) (u:Value × Value) (dX:List eX) (lo:List eR) (fq:eR) (asks:Int) (k:Nat) (c:hI) (pc:Nat) (r:gT × fy)
  (LS:fM w b pre post t ⟨uv, .slice (some ⟨g,0,none⟩) (lo.length+1) cap,us++[u]⟩ ⟨dX,lo++[fq],asks⟩) (Ml:iw w FX X iv m) (hc:m.eh[k]?=some c) (hf:fq.fn=((m.imports.length+k:Nat):Int)) (M7:m.imports.length+k <=100000) (HFX:Hid (∀i,FX i=true ->i < w.heap.size)) (OG:fq.pc=(pc:Int))
  (Rz:FN (fun Ly args=>∀(w':World) (D J:Nat),fM w' b pre post t ⟨uv, .slice (some ⟨g,0,none⟩) (lo.length+1) cap,us++[u]⟩ ⟨dX,lo++[fq],asks⟩ ->kb w' D X b pre.length g (lo.length*5) J ->iw w' FX X iv m ->fR w' J (oa c) ->
   Calls prog Ly (args D) w' (fW b pre post t ⟨uv, .slice (some ⟨g,0,none⟩) (lo.length+1) cap,us++[u]⟩ r w')) c pc fq.labels.length):
  Calls prog 28 #[.pointer (some ⟨X,0,none⟩), .pointer (some ⟨b,pre.length,none⟩)] w (fW b pre post t ⟨uv, .slice (some ⟨g,0,none⟩) (lo.length+1) cap,us++[u]⟩ r w):=by
 have HCS:=V Rz;have HPC:=V OG;have HF:=V hf;clear Rz OG hf;have LR:=(an w.heap.size w).alloc (ag _) (.cells #[.int .i64 0, .int .i64 0, .int .i64 0, .slice none 0 0] 49);have HX:=V (eD.new w #[.int .i64 0, .int .i64 0, .int .i64 0, .slice none 0 0] 49).drew;have HB:=V LR.drew;have Lz:=V (LS.below LR.drew);have L9:=V (Ml.below LR.drew);have HC:=V hc;have Mf:=LS.jq.lt;obtain⟨-,-,-,-,-,L7,Nc⟩:=LS.cells;have hS:World.cell? _ ⟨b,pre.length+1,none⟩=some (.slice (some ⟨g,0,none⟩) (lo.length+1) cap):=Lz.out.c1;clear LR LS Ml hc;go_enter func28,ntmps28;go_wp2_with fail;refine xL 0 1 rfl rfl ?_;go_wp2_with fail;refine ea (fun w'=>w'.cell? ⟨b,pre.length+1,none⟩=some (.slice (some ⟨g,0,none⟩) (lo.length+1) cap)) (up 0 14 ((14,false)::(15,true)::[])) (by kernel_rfl) (by kernel_rfl) hS ?_;clear hS;generalize(w.alloc (.cells #[.int .i64 0, .int .i64 0, .int .i64 0, .slice none 0 0] 49)).drew=w1 at HX HB Lz L9⊢;iterate 14 (first | (apply sk rfl rfl;simp only [pt]) | (apply dV rfl rfl rfl;·(rintro w' t0;go_wp2;exact⟨rfl,rfl,rfl⟩)))
 refine dZ rfl rfl ?_;go_wp2_with fail;have hb:=(an w1.heap.size w1).alloc (ag _) (.cells #[.pointer (some ⟨X,0,none⟩), .pointer (some ⟨b,pre.length,none⟩), .pointer (some ⟨g,lo.length*5,none⟩), .map none] 133);have Rc:=V (eD.new w1 #[.pointer (some ⟨X,0,none⟩), .pointer (some ⟨b,pre.length,none⟩), .pointer (some ⟨g,lo.length*5,none⟩), .map none] 133);have P9:=HB.out.size;have hxl:=HX.out.lt;replace HX:=V (HX.out.below hb HX.out.lt);replace HB:=V (HB.out.trans (hb.mono HB.out.size));replace Lz:=V (Lz.out.below hb);replace L9:=V (L9.out.below hb);clear hb;obtain⟨D,hD⟩:∃D,D=w1.heap.size:=⟨_,rfl⟩;have hDw:w.heap.size < D:=by omega
 rw [<- hD]at Rc⊢;clear hD P9 hxl;generalize w1.alloc (.cells #[.pointer (some ⟨X,0,none⟩), .pointer (some ⟨b,pre.length,none⟩), .pointer (some ⟨g,lo.length*5,none⟩), .map none] 133)=w2 at HX HB Lz L9 Rc⊢;refine⟨Lz.out.c1,?_⟩;iterate 1 (first | (apply sk rfl rfl;simp only [pt]) | (apply dV rfl rfl rfl;·(rintro w' t0;go_wp2;exact⟨rfl,rfl,rfl⟩)))
 refine eF ?_;refine aA ?_;obtain⟨⟨p0,p1,-,-,-⟩,-,-,-,-,-,-⟩:=Lz.out.cells;have d2:w2.cell? ⟨D,2,none⟩=some (.pointer (some ⟨g,lo.length*5,none⟩)):=Rc.out.cell 2;go_wp2_with fail;refine(zL w2 FX X iv m L9.out k c HC.out _ HF.out M7).mono ?_;rintro e w3 ⟨body,J,rfl,NN,hJ,hb⟩;clear p0 p1 d2;replace HX:=V (HX.out.below hb HX.out.lt);replace HB:=V (HB.out.trans (hb.mono HB.out.size));replace Lz:=V (Lz.out.below hb);replace L9:=V (L9.out.below hb);replace Rc:=V (Rc.out.below hb Rc.out.lt);have Re:=V NN;have HJ:=V hJ;obtain⟨ab,cb,PF,-,hcbm⟩:=ef.slice NN;subst PF;clear hb NN hJ;have d3:w3.cell? ⟨D,3,none⟩=some (.map none):=Rc.out.cell 3;have z3:=Rc.out.free 3;have d2:(w3.setCell ⟨D,3,none⟩ (.map (some J))).cell? ⟨D,2,none⟩=some (.pointer (some ⟨g,lo.length*5,none⟩)):=(Rc.out.set 3 (.map (some J))).cell 2;have Lx:=ei w3 D 3 (.map (some J));have hDn:¬ (⟨uv, .slice (some ⟨g,0,none⟩) (lo.length+1) cap,us++[u]⟩:rI).own b D:=Lz.out.not Rc.out (by omega) (by decide);have hDF:FX D=false:=by
  cases hh:FX D with
  | false=>rfl
  | true=>exact absurd (HFX.out D hh) (by omega)
 have LI:=V (HX.out.keeps Lx (by omega));have MJ:=V (Lz.out.keeps Lx (fun i hi e=>hDn (e▸hi)));have Nt:=V (L9.out.keeps Lx (fun i hi=>by rw [hi];exact hDF));have HBD2:=V (ef.ext Re.out (uT Lx (fun i hi=>by rw [hi];exact hDF)) (fun _ _ h=>h.ext (uT Lx (fun i hi=>by rw [hi];exact hDF))));have LY:=V (HB.out.trans (Lx.below HB.out.size (fun i hi=>by omega)));have PY:=V (D0 (j:=J) Rc.out);have HJ2:=V (Nt.out.maps k J c HJ.out HC.out).1;clear Lx hDn hDF HX Lz L9 Re HB Rc HJ;have MN:=(an _ (w3.setCell ⟨D,3,none⟩ (.map (some J)))).alloc (ag _) (.cells #[.int .i64 15, .int .i64 0, .int .i64 0, .slice none 0 0] 39);have N4:(w3.setCell ⟨D,3,none⟩ (.map (some J))).heap.size=w3.heap.size:=by simp
 have N9:=V (LI.out.below MN LI.out.lt);have QA:=V (MJ.out.below MN);have HIN4:=V (Nt.out.below MN);have HBD4:=V (ef.ext HBD2.out (jB MN) (fun _ _ h=>h.ext (jB MN)));have HB4:=V (LY.out.trans (MN.mono LY.out.size));have HD4:=V (PY.out.below MN);have HJ4:=V (HJ2.out.below MN);have Oy:=eD.new (w3.setCell ⟨D,3,none⟩ (.map (some J))) #[.int .i64 15, .int .i64 0, .int .i64 0, .slice none 0 0] 39;rw [N4]at Oy;have HI4:=V Oy;have hw3:w.heap.size < w3.heap.size:=by have:=LI.out.lt;omega
 clear MN N4 Oy;have d2:=HD4.out.d2;obtain⟨⟨-,p1,-,-,-⟩,-,-,-,-,-,-⟩:=QA.out.cells;simp only [HPC.out]at p1;rcases HCS.out with⟨hx,hdo⟩ | ⟨x,hx,hdo⟩
 ·have HDO:=V hdo
  have f1:decide ((pc:Int) < (c.body.length:Int))=false:=aw (by omega);have f2:decide (pc < c.body.length)=false:=aw (by omega);clear hdo hx;go_wp2_with fail;have HX:=N9;have Lz:=QA;have HB:=HB4;have Pd:=V (HDO.out _ D J QA.out HD4.out HIN4.out HJ4.out);clear LI MJ Nt HBD2 LY PY HJ2 N9 QA HIN4 HBD4 HB4 HD4 HJ4 HI4 d2 p1 d3 z3 f1 f2;generalize(w3.setCell ⟨D,3,none⟩ (.map (some J))).alloc (.cells #[.int .i64 15, .int .i64 0, .int .i64 0, .slice none 0 0] 39)=w6 at HX Lz HB Pd⊢;refine wp_goto ?_;refine Dv ?_;go_wp2_with fail;refine Pd.out.mono ?_;rintro e w4 ⟨v',vv,rfl,Nb,NA,MW,OO⟩;obtain⟨Qf,Qg,rfl,-,-⟩:=MW.slice;have N9:=V (HX.out.keeps NA.1 (Lz.out.not HX.out (by omega) (by decide)));have PI:=V Nb;have Qx:=V NA;have O6:=V MW;have Qy:=V OO;clear Nb NA MW OO;simp only [lS];obtain⟨⟨x0,x1,x2,x3⟩,z0,z1,z2,z3⟩:=N9.out.four;go_wp2_with fail
  skip
  refine aF (ej rfl _ _ rfl (jd N9.out rfl r.1.kind r.1.ky r.1.fn (.slice Qf r.1.dX.length Qg))) rfl ?_;exact fW.pass HB.out HX.out (ag _) (by omega) Lz.out PI.out Qx.out O6.out Qy.out _ _ _ rfl rfl rfl
 have RG:=V hx;have hpl:pc < c.body.length:=(aG.1 hx).1;obtain⟨bb,offb,capb,ub,PF,-,-,hbbl,LM,Ml⟩:=ef.at HBD4.out hx;injection PF with e1 e2 e3;subst e1 e3;obtain⟨al,cl,hle,-,hclm⟩:=Ml.1.sl;have y0:=(fP (LM 0 _ rfl)).2;have y1:=(fP (LM 1 _ rfl)).2;have y2:=(fP (LM 2 _ rfl)).2;have y3:=(fP (LM 3 _ rfl)).2;rw [aI]at y0;rw [hle]at y3;simp only at y0 y1 y2 y3;clear LM Ml hle e2 hbbl hx;rcases hdo with⟨No,hdo⟩ | ⟨No,n,ha,hn,hdo⟩ | ⟨No,hdo⟩
 ·have HDO:=V (hdo al cl)
  have f15:(x.op==15)=false:=dR (by omega);have f12:(x.op==12)=false:=dR (by omega);have f13:(x.op==13)=false:=dR (by omega);have f14:(x.op==14)=false:=dR (by omega);have f16:(x.op==16)=false:=dR (by omega);have f17:(x.op==17)=false:=dR (by omega);clear hdo No;go_wp2_with fail;have Mh:=(an _ (w3.setCell ⟨D,3,none⟩ (.map (some J)))).alloc (ag _) (.cells #[.int .i64 x.op, .int .i64 x.a, .int .i64 x.b, .slice al x.l.length cl] 39);have HX:=V (LI.out.below Mh LI.out.lt);have Lz:=V (MJ.out.below Mh);have HB:=V (LY.out.trans (Mh.mono LY.out.size));have Pd:=V (HDO.out _ D J Lz.out (PY.out.below Mh) (Nt.out.below Mh) (HJ2.out.below Mh));clear Mh LI MJ Nt HBD2 LY PY HJ2 N9 QA HIN4 HBD4 HB4 HD4 HJ4 HI4 d2 p1 y0 y1 y2 y3 d3 z3 f15 f12 f13 f14 f16 f17;generalize(w3.setCell ⟨D,3,none⟩ (.map (some J))).alloc (.cells #[.int .i64 x.op, .int .i64 x.a, .int .i64 x.b, .slice al x.l.length cl] 39)=w6 at HX Lz HB Pd⊢;refine Pd.out.mono ?_;rintro e w4 ⟨v',vv,rfl,Nb,NA,MW,OO⟩;obtain⟨Qf,Qg,rfl,-,-⟩:=MW.slice;have N9:=V (HX.out.keeps NA.1 (Lz.out.not HX.out (by omega) (by decide)));have PI:=V Nb;have Qx:=V NA;have O6:=V MW;have Qy:=V OO;clear Nb NA MW OO;simp only [lS];obtain⟨⟨x0,x1,x2,x3⟩,z0,z1,z2,z3⟩:=N9.out.four;go_wp2_with fail;rw [CI];refine aF (ej rfl _ _ rfl (jd N9.out rfl r.1.kind r.1.ky r.1.fn (.slice Qf r.1.dX.length Qg))) rfl ?_;exact fW.pass HB.out HX.out (ag _) (by omega) Lz.out PI.out Qx.out O6.out Qy.out _ _ _ rfl rfl rfl
 ·have HDO:=V hdo
  rw [No]at y0;rw [ha]at y1;clear hdo;obtain⟨ul,cl2,OK,hlb1,hlb2⟩:=QA.out.cells.2.1.2.slice;go_wp2_with fail;refine wp_goto ?_;refine C8 ?_;have Mh:=(an _ (w3.setCell ⟨D,3,none⟩ (.map (some J)))).alloc (ag _) (.cells #[.int .i64 12, .int .i64 (n:Int), .int .i64 x.b, .slice al x.l.length cl] 39);have HX:=V (LI.out.below Mh LI.out.lt);have Lz:=V (MJ.out.below Mh);have HB:=V (LY.out.trans (Mh.mono LY.out.size));have Pd:=V (HDO.out _ D J Lz.out (PY.out.below Mh) (Nt.out.below Mh) (HJ2.out.below Mh));have d2:=(PY.out.below Mh).d2;have p4:=Lz.out.cells.1.2.2.2.2;have f9:((n:Int)==(fq.labels.length:Int))=false:=dR (by omega);rw [OK]at p4;clear Mh LI MJ Nt HBD2 LY PY HJ2 N9 QA HIN4 HBD4 HB4 HD4 HJ4 HI4 p1 y0 y1 y2 y3 d3 z3 OK;generalize(w3.setCell ⟨D,3,none⟩ (.map (some J))).alloc (.cells #[.int .i64 12, .int .i64 (n:Int), .int .i64 x.b, .slice al x.l.length cl] 39)=w6 at HX Lz HB Pd d2 p4⊢;go_wp2_with fail;clear d2 p4 f9;refine Pd.out.mono ?_;rintro e w4 ⟨v',vv,rfl,Nb,NA,MW,OO⟩;obtain⟨Qf,Qg,rfl,-,-⟩:=MW.slice;have N9:=V (HX.out.keeps NA.1 (Lz.out.not HX.out (by omega) (by decide)));have PI:=V Nb;have Qx:=V NA;have O6:=V MW;have Qy:=V OO;clear Nb NA MW OO;simp only [lS];obtain⟨⟨x0,x1,x2,x3⟩,z0,z1,z2,z3⟩:=N9.out.four;go_wp2_with fail;rw [Hz];refine aF (ej rfl _ _ rfl (jd N9.out rfl r.1.kind r.1.ky r.1.fn (.slice Qf r.1.dX.length Qg))) rfl ?_;exact fW.pass HB.out HX.out (ag _) (by omega) Lz.out PI.out Qx.out O6.out Qy.out _ _ _ rfl rfl rfl
 ·have HDO:=V hdo
  rw [No]at y0;clear hdo;go_wp2_with fail;have Mh:=(an _ (w3.setCell ⟨D,3,none⟩ (.map (some J)))).alloc (ag _) (.cells #[.int .i64 16, .int .i64 x.a, .int .i64 x.b, .slice al x.l.length cl] 39);have HX:=V (LI.out.below Mh LI.out.lt);have Lz:=V (MJ.out.below Mh);have HB:=V (LY.out.trans (Mh.mono LY.out.size));have Pd:=V (HDO.out _ D J Lz.out (PY.out.below Mh) (Nt.out.below Mh) (HJ2.out.below Mh));clear Mh LI MJ Nt HBD2 LY PY HJ2 N9 QA HIN4 HBD4 HB4 HD4 HJ4 HI4 d2 p1 y0 y1 y2 y3 d3 z3;generalize(w3.setCell ⟨D,3,none⟩ (.map (some J))).alloc (.cells #[.int .i64 16, .int .i64 x.a, .int .i64 x.b, .slice al x.l.length cl] 39)=w6 at HX Lz HB Pd⊢;refine Pd.out.mono ?_;rintro e w4 ⟨v',vv,rfl,Nb,NA,MW,OO⟩;obtain⟨Qf,Qg,rfl,-,-⟩:=MW.slice;have N9:=V (HX.out.keeps NA.1 (Lz.out.not HX.out (by omega) (by decide)));have PI:=V Nb;have Qx:=V NA;have O6:=V MW;have Qy:=V OO;clear Nb NA MW OO;simp only [lS];obtain⟨⟨x0,x1,x2,x3⟩,z0,z1,z2,z3⟩:=N9.out.four;go_wp2_with fail;rw [CI];refine aF (ej rfl _ _ rfl (jd N9.out rfl r.1.kind r.1.ky r.1.fn (.slice Qf r.1.dX.length Qg))) rfl ?_;exact fW.pass HB.out HX.out (ag _) (by omega) Lz.out PI.out Qx.out O6.out Qy.out _ _ _ rfl rfl rfl

section
section
variable {P:Program} {ops:Array Oper} {Q:Exit ->Act ->World ->Prop} {S:World ->Prop} {d:Nat}
end
end


section
structure iE (w:World) (F FX:Nat ->Bool) (X b:Nat) (iv:ly) (m:eu) (pre post:List Value) (t:TypeId) (s:fy):Prop where
 st:∃v,fM w b pre post t v s/\∀g,v.own b g ->F g=false
 inst:iw w FX X iv m
 sub:∀g,FX g=true ->F g=true
 lt:∀g,F g=true ->g < w.heap.size
def pB (F FX:Nat ->Bool) (X b:Nat) (iv:ly) (m:eu) (pre post:List Value) (t:TypeId) (r:gT × fy) (w:World) (e:Ending) (w':World):Prop:=
 ∃vv,e= .returned (lS r.1 vv)/\iE w' F FX X b iv m pre post t r.2/\dS 52 2 fD w' w.heap.size vv r.1.dX/\dU (fun g=>F g=false) w w'
section
variable {w w':World} {F FX:Nat ->Bool} {X b:Nat} {iv:ly} {m:eu} {pre post:List Value} {t:TypeId} {s:fy}
theorem iE.keeps {P:Nat ->Prop} (h:iE w F FX X b iv m pre post t s) (hk:dU P w w') (hP:∀g,P g ->FX g=false/\(F g=true\/w.heap.size <=g)):iE w' F FX X b iv m pre post t s:=by
 obtain⟨v,h1,h2⟩:=h.st;refine⟨⟨v,h1.keeps hk (fun g hg hp=>?_),h2⟩,h.inst.keeps hk (fun g hg=>(hP g hg).1),h.sub,fun g hg=>bo (h.lt g hg) hk.size⟩;rcases(hP g hp).2 with h3 | h3
 ·rw [h2 g hg]at h3
  cases h3
 ·have:=h1.lt hg
  omega
theorem iE.below (h:iE w F FX X b iv m pre post t s) (hb:Below w.heap.size w w'):iE w' F FX X b iv m pre post t s:=h.keeps (P:=fun _=>False) (dU.dW hb) (fun _ h=>h.elim)
theorem iE.add (h:iE w F FX X b iv m pre post t s) (hb:Below w.heap.size w w') (Y:Nat) (h1:w.heap.size <=Y) (h2:Y < w'.heap.size):iE w' (fun g=>F g || decide (g=Y)) FX X b iv m pre post t s:=by
 obtain⟨v,h3,h4⟩:=h.st;refine⟨⟨v,h3.below hb,fun g hg=>?_⟩,h.inst.below hb,fun g hg=>by simp [h.sub g hg],fun g hg=>?_⟩
 ·have:=h3.lt hg
  have MO:g≠Y:=by omega
  simp [h4 g hg,MO]
 ·simp only [Bool.or_eq_true,cW]at hg
  rcases hg with hg | hg
  ·exact bo (h.lt g hg) hb.size
  ·omega
theorem iE.fx (h:iE w F FX X b iv m pre post t s) (g:Nat) (hg:F g=false):FX g=false:=by
 cases hf:FX g with
 | false=>rfl
 | true=>rw [h.sub g hf]at hg;cases hg
theorem iE.end {v:rI} {r:gT × fy} {e:Ending} (h2:∀g,v.own b g ->F g=false) (h:iE w F FX X b iv m pre post t s) (he:fW b pre post t v r w e w'):pB F FX X b iv m pre post t r w e w':=by
 obtain⟨v',vv,rfl,h3,h4,h5,-⟩:=he;refine⟨vv,rfl,⟨⟨v',h3,fun g hg=>?_⟩,h.inst.keeps h4.1 (fun g hg=>h.fx g (h2 g hg)),h.sub,fun g hg=>bo (h.lt g hg) h4.1.size⟩,h5,h4.1.mono h2⟩;rcases h4.2 g hg with h6 | h6
 ·exact h2 g h6
 ·cases hf:F g with
  | false=>rfl
  | true=>
   have:=h.lt g hf;omega
theorem iE.c1 {dX:List eX} {lo:List eR} {fq:eR} {asks:Int} (h:iE w F FX X b iv m pre post t ⟨dX,lo++[fq],asks⟩):∃g cap,w.cell? ⟨b,pre.length+1,none⟩=some (.slice (some ⟨g,0,none⟩) (lo.length+1) cap)/\lo.length+1 <=cap/\cap <=9223372036854775807/\
  w.cell? ⟨g,lo.length*5,none⟩=some (.int .i64 fq.fn)/\w.cell? ⟨g,lo.length*5+1,none⟩=some (.int .i64 fq.pc):=by
 obtain⟨v,h1,-⟩:=h.st;obtain⟨us,u,g,cap,-,-,h2,h3,h4,-,h5,-⟩:=h1.top rfl;have h6:=h1.c1;rw [h2]at h6;exact⟨g,cap,h6,h3,h4,h5.1,h5.2.1⟩
theorem iE.Ln {dX:List eX} {asks:Int} (h:iE w F FX X b iv m pre post t ⟨dX,[],asks⟩):∃a cap,w.cell? ⟨b,pre.length+1,none⟩=some (.slice a 0 cap):=by
 obtain⟨v,h1,-⟩:=h.st;have h6:=h1.c1;obtain⟨a,cap,h2,-⟩:=h1.eg.slice;have hl:(([]:List eR).zip v.us).length=0:=by simp
 rw [h2]at h6;exact⟨a,cap,by rw [h6];simp⟩
theorem iE.c2 (h:iE w F FX X b iv m pre post t s):w.cell? ⟨b,pre.length+2,none⟩=some (.int .i64 s.asks):=by
 obtain⟨v,h1,-⟩:=h.st;exact h1.c2
theorem iE.shape {dX:List eX} {lo:List eR} {fq:eR} {asks:Int} (h:iE w F FX X b iv m pre post t ⟨dX,lo++[fq],asks⟩):
  ∃uv g cap us u,fM w b pre post t ⟨uv, .slice (some ⟨g,0,none⟩) (lo.length+1) cap,us++[u]⟩ ⟨dX,lo++[fq],asks⟩/\∀g',rI.own ⟨uv, .slice (some ⟨g,0,none⟩) (lo.length+1) cap,us++[u]⟩ b g' ->F g'=false:=by
 obtain⟨⟨uv,uf,MG⟩,h1,h2⟩:=h.st;obtain⟨us,u,g,cap,e1,-,e2,-⟩:=h1.top rfl;simp only at e1 e2;subst e1 e2;exact⟨uv,g,cap,us,u,h1,h2⟩
end
theorem iE.call (w:World) (F FX:Nat ->Bool) (X b:Nat) (iv:ly) (m:eu) (pre post:List Value) (t:TypeId) (s:fy) (h:iE w F FX X b iv m pre post t s) (k:Nat) (c:hI) (ty:gw) (fn:Int) (args:List eX) (va:Value)
  (hc:m.eh[k]?=some c) (hf:fn=((m.imports.length+k:Nat):Int)) (PM:mC m fn ty) (hk:m.imports.length+m.funcs.length <=100000) (M7:k <=100000) (hl:ty.params.length+c.locals.length <=100000)
  (ha:ee 2 fD w va args) (Ng:args.length <=(ty.params++c.locals).length) (hn:s.dX.length <=50000) (Lv:s.eg.length <=50000):
  Calls prog 24 #[.pointer (some ⟨X,0,none⟩), .pointer (some ⟨b,pre.length,none⟩), .int .i64 fn,va] w (pB F FX X b iv m pre post t (mT (ty.params++c.locals) s fn args) w):=by
 obtain⟨v,h1,h2⟩:=h.st;exact(EU w FX X b iv m pre post t v s k c ty fn args va h1 h.inst hc hf PM hk M7 hl ha Ng hn Lv).mono (fun e w' he=>iE.end h2 h he)
theorem iE.plain (w:World) (F FX:Nat ->Bool) (X b:Nat) (iv:ly) (m:eu) (pre post:List Value) (t:TypeId) (dX:List eX) (lo:List eR) (fq:eR) (asks:Int) (k pc:Nat) (c:hI) (x:eP) (r:gT × fy)
  (h:iE w F FX X b iv m pre post t ⟨dX,lo++[fq],asks⟩) (hc:m.eh[k]?=some c) (hf:fq.fn=((m.imports.length+k:Nat):Int)) (M7:m.imports.length+k <=100000)
  (OG:fq.pc=(pc:Int)) (hx:c.body[pc]?=some x) (No:¬ (x.op=15\/x.op=12\/x.op=13\/x.op=14\/x.op=16\/x.op=17))
  (hplain:∀(w':World) (D J g cap:Nat) (uv:Value) (us:List (Value × Value)) (u:Value × Value) (al:Option Addr) (cl:Nat),fM w' b pre post t ⟨uv, .slice (some ⟨g,0,none⟩) (lo.length+1) cap,us++[u]⟩ ⟨dX,lo++[fq],asks⟩ ->kb w' D X b pre.length g (lo.length*5) J ->iw w' FX X iv m ->fR w' J (oa c) ->
   Calls prog 58 #[.pointer (some ⟨D,0,none⟩), .agg #[.int .i64 x.op, .int .i64 x.a, .int .i64 x.b, .slice al x.l.length cl]] w' (fW b pre post t ⟨uv, .slice (some ⟨g,0,none⟩) (lo.length+1) cap,us++[u]⟩ r w')):
  Calls prog 28 #[.pointer (some ⟨X,0,none⟩), .pointer (some ⟨b,pre.length,none⟩)] w (pB F FX X b iv m pre post t r w):=by
 obtain⟨uv,g,cap,us,u,h1,h2⟩:=h.shape;exact(yt w FX X b g cap iv m pre post t uv us u dX lo fq asks k c pc r h1 h.inst hc hf M7 (V h.inst.lt) OG (.inr ⟨x,hx, .inl ⟨No,fun al cl w' D J=>hplain w' D J g cap uv us u al cl⟩⟩)).mono (fun e w' he=>iE.end h2 h he)
theorem iE.const (w:World) (F FX:Nat ->Bool) (X b:Nat) (iv:ly) (m:eu) (pre post:List Value) (t:TypeId) (dX:List eX) (lo:List eR) (fq:eR) (asks:Int) (k pc:Nat) (c:hI) (h:iE w F FX X b iv m pre post t ⟨dX,lo++[fq],asks⟩) (hc:m.eh[k]?=some c) (hf:fq.fn=((m.imports.length+k:Nat):Int)) (M7:m.imports.length+k <=100000) (OG:fq.pc=(pc:Int)) (a:Int) (hx:c.body[pc]?=some ⟨65,a,0,[]⟩) (hn:dX.length <=50000) (hp:pc <=1000000):
  Calls prog 28 #[.pointer (some ⟨X,0,none⟩), .pointer (some ⟨b,pre.length,none⟩)] w (pB F FX X b iv m pre post t (kS dX [⟨1,a⟩] ⟨dX,lo++[fq],asks⟩ lo fq) w):=
 iE.plain w F FX X b iv m pre post t dX lo fq asks k pc c _ _ h hc hf M7 OG hx (by simp) (fun w' D J g cap uv us u al cl h1 h2 _ _=>Hw w' D X b g J cap pre post t uv us u dX lo fq asks a 0 al 0 cl h1 h2 hn (by omega))
theorem iE.local (w:World) (F FX:Nat ->Bool) (X b:Nat) (iv:ly) (m:eu) (pre post:List Value) (t:TypeId) (dX:List eX) (lo:List eR) (fq:eR) (asks:Int) (k pc:Nat) (c:hI) (h:iE w F FX X b iv m pre post t ⟨dX,lo++[fq],asks⟩) (hc:m.eh[k]?=some c) (hf:fq.fn=((m.imports.length+k:Nat):Int)) (M7:m.imports.length+k <=100000) (OG:fq.pc=(pc:Int)) (i:Nat) (v:eX) (hx:c.body[pc]?=some ⟨32,(i:Int),0,[]⟩) (hv:fq.locals[i]?=some v) (hn:dX.length <=50000) (hp:pc <=1000000):
  Calls prog 28 #[.pointer (some ⟨X,0,none⟩), .pointer (some ⟨b,pre.length,none⟩)] w (pB F FX X b iv m pre post t (kS dX [v] ⟨dX,lo++[fq],asks⟩ lo fq) w):=
 iE.plain w F FX X b iv m pre post t dX lo fq asks k pc c _ _ h hc hf M7 OG hx (by simp) (fun w' D J g cap uv us u al cl h1 h2 _ _=>Ir w' D X b g J cap pre post t uv us u dX lo fq asks i v 0 al 0 cl h1 h2 hn (by omega) hv)
theorem iE.sum (w:World) (F FX:Nat ->Bool) (X b:Nat) (iv:ly) (m:eu) (pre post:List Value) (t:TypeId) (dX:List eX) (lo:List eR) (fq:eR) (asks m1 n1:Int) (k pc:Nat) (c:hI) (h:iE w F FX X b iv m pre post t ⟨dX++[⟨1,m1⟩,⟨1,n1⟩],lo++[fq],asks⟩) (hc:m.eh[k]?=some c) (hf:fq.fn=((m.imports.length+k:Nat):Int)) (M7:m.imports.length+k <=100000) (OG:fq.pc=(pc:Int)) (hx:c.body[pc]?=some ⟨106,0,0,[]⟩) (hn:dX.length <=50000) (hp:pc <=1000000) (h1:pQ m1) (h2:pQ n1):
  Calls prog 28 #[.pointer (some ⟨X,0,none⟩), .pointer (some ⟨b,pre.length,none⟩)] w (pB F FX X b iv m pre post t (uD dX ⟨1,wrap32 (m1+n1)⟩ 0 ⟨dX++[⟨1,m1⟩,⟨1,n1⟩],lo++[fq],asks⟩ lo fq) w):=
 iE.plain w F FX X b iv m pre post t (dX++[⟨1,m1⟩,⟨1,n1⟩]) lo fq asks k pc c _ _ h hc hf M7 OG hx (by simp) (fun w' D J g cap uv us u al cl k1 k2 _ _=>
  JI w' D b g cap pre post t uv us u (dX++[⟨1,m1⟩,⟨1,n1⟩]) lo fq asks 106 0 _ 0 al 0 cl k1 (by unfold kR;decide) (fun w2 Lw=>
   DO w2 D X b g J cap pre post t uv us u dX ⟨1,m1⟩ ⟨1,n1⟩ lo fq asks 106 0 0 al 0 cl ⟨1,wrap32 (m1+n1)⟩ 0 (k1.below Lw) (k2.below Lw) hn (by omega) (by unfold wN;decide) (by decide) (fun w3=>I0 m1 n1 w3 h1 h2)))
theorem iE.ret (w:World) (F FX:Nat ->Bool) (X b:Nat) (iv:ly) (m:eu) (pre post:List Value) (t:TypeId) (l1 l2:List eX) (lo:List eR) (fq:eR) (asks:Int) (k pc:Nat) (c:hI) (ty:gw) (h:iE w F FX X b iv m pre post t ⟨l1++l2,lo++[fq],asks⟩) (hc:m.eh[k]?=some c) (hf:fq.fn=((m.imports.length+k:Nat):Int)) (M7:m.imports.length+k <=100000) (OG:fq.pc=(pc:Int))
  (hx:c.body.length <=pc) (PM:mC m fq.fn ty) (hk:m.imports.length+m.funcs.length <=100000) (LW:fq.base=(l1.length:Int)) (L6:0 < ty.results.length ->l1++l2≠[]) (hn:l1.length+l2.length <=50000):
  Calls prog 28 #[.pointer (some ⟨X,0,none⟩), .pointer (some ⟨b,pre.length,none⟩)] w (pB F FX X b iv m pre post t (vw (kF l1 l2 (decide (0 < ty.results.length))) lo asks) w):=by
 obtain⟨uv,g,cap,us,u,h1,h2⟩:=h.shape;exact(yt w FX X b g cap iv m pre post t uv us u (l1++l2) lo fq asks k c pc _ h1 h.inst hc hf M7 (V h.inst.lt) OG (.inl ⟨hx,fun w' D J hs hd hi _=>GW w' FX D X b g J cap iv m pre post t uv us u l1 l2 lo fq asks ty hs hd hi PM hk LW L6 hn⟩)).mono (fun e w' he=>iE.end h2 h he)
theorem iE.K0 {w:World} {F FX:Nat ->Bool} {X b:Nat} {iv:ly} {m:eu} {pre post:List Value} {t:TypeId} {dX:List eX} {lo:List eR} {fq:eR} {asks:Int} (h:iE w F FX X b iv m pre post t ⟨dX,lo++[fq],asks⟩):
  ∃g cap al cl la lc,(F b=false/\F g=false)/\w.cell? ⟨b,pre.length+1,none⟩=some (.slice (some ⟨g,0,none⟩) (lo.length+1) cap)/\lo.length+1 <=cap/\cap <=9223372036854775807/\
   (w.cell? ⟨g,lo.length*5,none⟩=some (.int .i64 fq.fn)/\w.cell? ⟨g,lo.length*5+1,none⟩=some (.int .i64 fq.pc)/\w.cell? ⟨g,lo.length*5+2,none⟩=some (.slice al fq.locals.length cl)/\w.cell? ⟨g,lo.length*5+3,none⟩=some (.int .i64 fq.base)/\w.cell? ⟨g,lo.length*5+4,none⟩=some (.slice la fq.labels.length lc))/\fq.locals.length <=cl/\cl <=9223372036854775807/\
   ∀j l,fq.locals[j]?=some l ->∃bl ol,al=some ⟨bl,ol,none⟩/\w.cell? ⟨bl,ol+j*2+1,none⟩=some (.int .i64 l.n):=by
 obtain⟨uv,g,cap,us,u,h1,h2⟩:=h.shape;obtain⟨⟨p0,p1,p2,p3,p4⟩,hf,-,-,-,N3,MF⟩:=h1.cells;have hl:=hf.1.fH fI;obtain⟨al,cl,hu,h3,h4⟩:=hl.sl;rw [hu]at p2 hl;obtain⟨la,lc,Nz,-,-⟩:=(hf.2.fH lI).sl;rw [Nz]at p4;refine⟨g,cap,al,cl,la,lc,⟨h2 b (.inl rfl),h2 g (.inr (.inr (.inl (by simp [ez,Value.ownBlock]))))⟩,h1.c1,N3,MF,⟨p0,p1,p2,p3,p4⟩,h3,h4,fun j l hj=>?_⟩;obtain⟨bl,ol,cl',he,-,-,-,hc⟩:=ee.at hl hj;injection he with he;exact⟨bl,ol,he,hc 1 _ rfl⟩
end
abbrev fl (n:Int):Nat:=floatOfInt .f64 n
theorem CZ (n j:Nat) (h:n≠0):(n*2^j).log2=n.log2+j:=by
 have hp:n*2^j≠0:=Nat.mul_ne_zero h (by have:=dh j;omega);have h1:=Nat.log2_self_le h;have h2:=Nat.lt_log2_self (n:=n);have h3:n.log2+j <=(n*2^j).log2:=(Nat.le_log2 hp).2 (by rw [dQ];exact cK _ h1);have h4:(n*2^j).log2 < n.log2+j+1:=(Nat.log2_lt hp).2 (by
  rw [show n.log2+j+1=(n.log2+1)+j by omega,dQ];exact Nat.mul_lt_mul_of_pos_right h2 (dh j))
 omega
theorem wF (way:Ieee.Toward) (hw:way= .even\/way= .zero) (s:Bool) (q d:Nat):way.cut s (q*2^d) d=q:=by
 have hg:q=0\/1 <<< min d ((q*2^d).log2+2)=2^d:=by
  by_cases hq:q=0
  ·exact .inl hq
  ·right
   rw [CZ q d hq,cm (by omega),Nat.one_shiftLeft]
 have hp:=dh d;rcases hg with rfl | hg
 ·rcases hw with rfl | rfl
  ·have hz:0 < 1 <<< min d ((0*2^d).log2+2):=by rw [Nat.one_shiftLeft];exact dh _
   simp only [Ieee.Toward.cut];generalize 1 <<< min d ((0*2^d).log2+2)=g at hz;rw [dL,Nat.zero_div,Nat.zero_mod];have:(decide (g < 2*0) || g==2*0&&0 %2==1)=false:=by simp
   rw [this];rfl
  ·simp only [Ieee.Toward.cut,dL,Nat.zero_div]
   rfl
 ·simp only [Ieee.Toward.cut]
  rw [hg,Nat.mul_div_cancel _ hp,Nat.mul_mod_left];rcases hw with rfl | rfl
  ·have:(decide (2^d < 2*0) || 2^d==2*0&&q %2==1)=false:=by
    simp
   simp only [this];rfl
  ·rfl
theorem Ju (s:Bool) (n j:Nat) (h0:n≠0) (h:n < 9007199254740992):
  Ieee.double.nearest s (n*2^j) (-(j:Int))=Ieee.double.word s (min ((n.log2+1022)*4503599627370496+n*2^(52 - n.log2)) Ieee.double.infRung):=by
 have hL:n.log2 <=52:=by
  have:=(Nat.log2_lt h0 (k:=53)).2 (by simpa using h);omega
 have hm:n*2^j≠0:=Nat.mul_ne_zero h0 (by have:=dh j;omega);unfold Ieee.Format.nearest;rw [az hm];have e1:max (-(j:Int)+((n*2^j).log2:Nat) - (Ieee.double.fractionBits:Nat)) Ieee.double.leastPlace=(n.log2:Int) - 52:=by
  rw [CZ n j h0];have:Ieee.double.leastPlace= -1074:=rfl;rw [this];have:(Ieee.double.fractionBits:Int)=52:=rfl;rw [this];omega
 simp only [e1];have e2:((n.log2:Int) - 52 - Ieee.double.leastPlace).toNat=n.log2+1022:=by
  have:Ieee.double.leastPlace= -1074:=rfl;rw [this];omega
 have e3:Ieee.double.binade=4503599627370496:=rfl;rw [e2,e3];have e4:Ieee.Toward.even.cut s ((n*2^j) <<< (-(j:Int) - ((n.log2:Int) - 52)).toNat) ((n.log2:Int) - 52 - -(j:Int)).toNat=n*2^(52 - n.log2):=by
  rw [Nat.shiftLeft_eq,show(n*2^j)*2^(-(j:Int) - ((n.log2:Int) - 52)).toNat=(n*2^(52 - n.log2))*2^((n.log2:Int) - 52 - -(j:Int)).toNat from ?_]
  ·exact wF .even (.inl rfl) s _ _
  ·rw [Nat.mul_assoc, <- dQ,Nat.mul_assoc, <- dQ]
   congr 2
   omega
 rw [e4]
def Fl (x:Nat) (v:Int):Prop:=∃s m j,Ieee.double.read x= .number s m (-((j:Nat):Int))/\(if s then -((m:Nat):Int)else(m:Int))=v*2^j/\(0 <=v ->s=false)
theorem tU {s:Bool} {m j:Nat} {v:Int} (h:(if s then -((m:Nat):Int)else(m:Int))=v*2^j):m=v.natAbs*2^j/\(v < 0 ->s=true)/\(0 < v ->s=false):=by
 have hp:(0:Int) < 2^j:=Int.pow_pos (by decide);refine⟨?_,fun hv=>?_,fun hv=>?_⟩
 ·have h1:((if s then -((m:Nat):Int)else(m:Int))).natAbs=m:=by cases s <;>simp
  rw [<- h1,h,Int.natAbs_mul]
  congr 1
 ·cases s with
  | true=>rfl
  | false=>
   have:=Int.mul_neg_of_neg_of_pos hv hp;simp at h;omega
 ·cases s with
  | false=>rfl
  | true=>
   have:=Int.mul_pos hv hp;simp at h;omega
theorem EJ {s:Bool} {m j:Nat} {v:Int} (h:(if s then -((m:Nat):Int)else(m:Int))=v*2^j) (hs:v=0 ->s=false) (hv:v.natAbs < 9007199254740992):Ieee.double.nearest s m (-(j:Int))=fl v:=by
 obtain⟨hm,h1,h2⟩:=tU h;show _=Ieee.double.nearest (decide (v < 0)) v.natAbs 0;by_cases q:v=0
 ·subst q
  rw [hs rfl,hm];simp [Ieee.Format.nearest]
 ·have q1:v.natAbs≠0:=by omega
  have e:=Ju (decide (v < 0)) v.natAbs 0 q1 hv;simp only [Nat.pow_zero,aY,Int.ofNat_zero,Int.neg_zero]at e;have:s=decide (v < 0):=by
   by_cases q2:v < 0
   ·rw [h1 q2];simp [q2]
   ·rw [h2 (by omega)];simp [q2]
  rw [hm,Ju s v.natAbs j q1 hv,this];exact e.symm
theorem xY {v:Int} (hv:v.natAbs < 9007199254740992):Fl (fl v) v:=by
 by_cases q:v=0
 ·subst q
  exact⟨false,0,1074,by decide,(Int.zero_mul _).symm,fun _=>rfl⟩
 have q1:v.natAbs≠0:=by omega
 have e:=Ju (decide (v < 0)) v.natAbs 0 q1 hv;simp only [Nat.pow_zero,aY,Int.ofNat_zero,Int.neg_zero]at e;have e:fl v=_:=e;have hL:v.natAbs.log2 <=52:=by
  have:=(Nat.log2_lt q1 (k:=53)).2 (by simpa using hv);omega
 have b1:=Nat.log2_self_le q1;have b2:=Nat.lt_log2_self (n:=v.natAbs);have b3:4503599627370496 <=v.natAbs*2^(52 - v.natAbs.log2):=by
  have:=cK (2^(52 - v.natAbs.log2)) b1;rw [<- dQ,show v.natAbs.log2+(52 - v.natAbs.log2)=52 by omega]at this;exact this
 have b4:v.natAbs*2^(52 - v.natAbs.log2) < 9007199254740992:=by
  have:=Nat.mul_lt_mul_of_pos_right b2 (dh (52 - v.natAbs.log2));rw [<- dQ,show v.natAbs.log2+1+(52 - v.natAbs.log2)=53 by omega]at this;exact this
 refine⟨decide (v < 0),v.natAbs*2^(52 - v.natAbs.log2),52 - v.natAbs.log2,?_,?_,fun h=>by simp;omega⟩
 ·rw [e]
  generalize v.natAbs*2^(52 - v.natAbs.log2)=qq at b3 b4;generalize v.natAbs.log2=L at hL;have i1:Ieee.double.infRung=9218868437227405312:=by decide
  have i2:Ieee.double.signWeight=9223372036854775808:=by decide
  have i3:Ieee.double.binade=4503599627370496:=rfl;have i4:Ieee.double.leastPlace= -1074:=rfl;rw [i1,cm (by omega)];unfold Ieee.Format.read Ieee.Format.word;rw [i1,i2,i3,i4];obtain⟨r,hr⟩:∃r,(L+1022)*4503599627370496+qq=r:=⟨_,rfl⟩;rw [hr];have r1:¬ r < 4503599627370496:=by omega
  have r2:r < 9218868437227405312:=by omega
  have r3:4503599627370496+r %4503599627370496=qq:=by omega
  have r4:r/4503599627370496=L+1023:=by omega
  have r5:(-1074+((r/4503599627370496 - 1:Nat):Int))= -((52 - L:Nat):Int):=by rw [r4];omega
  cases decide (v < 0)
  ·have e5:r/9223372036854775808 %2=0:=by omega
   have e6:r %9223372036854775808=r:=by omega
   simp only [bW,dD,e5,e6,az r1,aD r2,r3,r5];rfl
  ·have e5:(9223372036854775808+r)/9223372036854775808 %2=1:=by omega
   have e6:(9223372036854775808+r) %9223372036854775808=r:=by omega
   simp only [cO,e5,e6,az r1,aD r2,r3,r5];rfl
 ·have hc:((2^(52 - v.natAbs.log2):Nat):Int)=(2:Int)^(52 - v.natAbs.log2):=by simp
  rw [<- hc];by_cases q2:v < 0
  ·rw [aD (by simpa using q2),Int.natCast_mul, <- Int.neg_mul]
   congr 1
   omega
  ·rw [az (by simpa using q2),Int.natCast_mul]
   congr 1
   omega
theorem wI {s:Bool} {m j K:Nat} {v:Int} (h:(if s then -((m:Nat):Int)else(m:Int))=v*2^j) (hK:j <=K):Ieee.signed s m (K - j)=v*2^K:=by
 have hc:((2^(K - j):Nat):Int)=(2:Int)^(K - j):=by simp
 have:Ieee.signed s m (K - j)=(if s then -((m:Nat):Int)else(m:Int))*2^(K - j):=by
  unfold Ieee.signed;rw [Nat.shiftLeft_eq, <- hc];cases s
  ·simp
  ·simp [Int.neg_mul]
 rw [this,h,Int.mul_assoc, <- Int.pow_add,show j+(K - j)=K by omega]
theorem JB {s t:Bool} {m n j k:Nat} {a b:Int} (h1:(if s then -((m:Nat):Int)else(m:Int))=a*2^j) (hs:0 <=a ->s=false) (h2:(if t then -((n:Nat):Int)else(n:Int))=b*2^k) (hv:(a+b).natAbs < 9007199254740992):
  ((Ieee.Datum.number s m (-(j:Int))).sum (.number t n (-(k:Int)))).map Ieee.double.write=some (fl (a+b)):=by
 obtain⟨K,hK⟩:∃K,K=max j k:=⟨_,rfl⟩;have e1:min (-(j:Int)) (-(k:Int))= -(K:Int):=by omega
 have e2:(-(j:Int) - -(K:Int)).toNat=K - j:=by omega
 have e3:(-(k:Int) - -(K:Int)).toNat=K - k:=by omega
 have hp:(0:Int) < 2^K:=Int.pow_pos (by decide);obtain⟨-,-,h4⟩:=tU h2;simp only [Ieee.Datum.sum,e1,e2,e3];rw [wI h1 (by omega),wI h2 (by omega), <- Int.add_mul];simp only [bq,Ieee.Format.write];refine cU some (EJ ?_ ?_ hv)
 ·by_cases q:(a+b)*2^K=0
  ·rw [aD q,q]
   simp
  ·rw [az q]
   by_cases q2:(a+b)*2^K < 0
   ·rw [aD (by simpa using q2)]
    omega
   ·rw [az (by simpa using q2)]
    omega
 ·intro h0
  rw [h0,Int.zero_mul,aD rfl];by_cases q:0 <=a
  ·rw [hs q];rfl
  ·rw [h4 (by omega)];simp
theorem EP {a b:Int} (ha:a.natAbs < 9007199254740992) (hb:b.natAbs < 9007199254740992) (PR:(a+b).natAbs < 9007199254740992):floatBits .add .f64 (fl a) (fl b)=some (fl (a+b)):=by
 obtain⟨s,m,j,h1,h2,h3⟩:=xY ha;obtain⟨t,n,k,h4,h5,-⟩:=xY hb;show((Ieee.double.read (fl a)).sum (Ieee.double.read (fl b))).map Ieee.double.write=_;rw [h1,h4];exact JB h2 h3 h5 PR
theorem Ff {a:Int} (ha:a.natAbs < 9007199254740992):floatToIntVal .f64 (fl a) .i64=some a:=by
 obtain⟨s,m,j,h1,h2,h3⟩:=xY ha;have e:(FloatKind.f64.decode (fl a)).toInt .zero=some a:=by
  show(Ieee.double.read (fl a)).toInt .zero=_;rw [h1];obtain⟨hm,h4,h5⟩:=tU h2;simp only [Ieee.Datum.toInt,Ieee.Datum.integral];rw [show(-(j:Int)).toNat=0 by omega,show(- -(j:Int)).toNat=j by omega,Nat.shiftLeft_eq,Nat.pow_zero,aY,hm,wF .zero (.inr rfl)];unfold Ieee.signed;rw [Nat.shiftLeft_eq,Nat.pow_zero,aY];by_cases q:a < 0
  ·rw [h4 q,aD rfl]
   congr 1
   omega
  ·rw [h3 (by omega)]
   simp only [bW,dD]
   congr 1
   omega
 unfold floatToIntVal;rw [e];have hb:(IntKind.i64.min:Int) <=a/\a <=IntKind.i64.max:=by
  have h1:IntKind.i64.min= -9223372036854775808:=by decide
  have h2:IntKind.i64.max=9223372036854775807:=by decide
  rw [h1,h2];omega
 simp only [hb,and_self,cO]
theorem oz:fl 0=0:=by decide
theorem If:fl 4=4616189618054758400:=by decide+kernel
theorem AJ (a b:Int) (w:World):Calls prog 86 #[.int .i64 a, .int .i64 b] w (fi (.complex .f64 (fl a) (fl b)) w):=by
 go_enter func86,ntmps86;go_wp2;go_ret;exact⟨rfl,an _ _⟩
theorem Di (n:Int) (hn:n.natAbs < 9007199254740992) (wx:World):(convert 129 3 (.float .f64 (fl n))).run prog wx= .ok (.int .i64 n) wx:=
 run_convert_float_int wx 129 3 .f64 .i64 (fl n) n (by kernel_rfl) (by kernel_rfl) (Ff hn)
theorem C6 (n:Int) (y:Nat) (hn:n.natAbs < 9007199254740992) (w:World):Calls prog 27 #[.complex .f64 (fl n) y] w (fi (.int .i64 n) w):=by
 have h:=Di n hn;go_enter func27,ntmps27;go_wp2;go_ret;exact⟨rfl,an _ _⟩
def ry (op:Int):Prop:=op≠40/\op≠54/\op≠41/\op≠55/\op≠44/\op≠45/\op≠58
theorem zW (op:Int) (h:ry op) (w:World):Calls prog 52 #[.int .i64 op] w (fi (.complex .f64 (fl 1) (fl 0)) w):=by
 obtain⟨h1,h2,h3,h4,h5,h6,h7⟩:=h;replace h1:=dR h1;replace h2:=dR h2;replace h3:=dR h3;replace h4:=dR h4;replace h5:=dR h5;replace h6:=dR h6;replace h7:=dR h7;go_enter func52,ntmps52;go_wp2_with fail;refine(AJ 1 0 _).mono ?_;rintro e w1 ⟨rfl,hb⟩;go_wp2;go_ret;exact⟨rfl,hb⟩
theorem CN (a b c d:Int) (ha:a.natAbs < 9007199254740992) (hb:b.natAbs < 9007199254740992) (hc:c.natAbs < 9007199254740992) (hd:d.natAbs < 9007199254740992) (hac:(a+c).natAbs < 9007199254740992) (NN:(b+d).natAbs < 9007199254740992) (wx:World):
  (binOp .add 61 (.complex .f64 (fl a) (fl b)) (.complex .f64 (fl c) (fl d))).run prog wx= .ok (.complex .f64 (fl (a+c)) (fl (b+d))) wx:=by
 refine run_complex_sum wx .add (.inl rfl) _ .f64 _ _ _ _ _ _ ?_;unfold cSumBits;rw [EP ha hc hac,EP hb hd NN];rfl
theorem GP (n:Int) (hn:0 <=n/\n <=1000000) (B:Nat) (w:World) (h0:w.cell? ⟨B,0,none⟩=some (.complex .f64 (fl n) (fl 0))) (h1:w.cell? ⟨B,1,none⟩=some (.complex .f64 (fl 1) (fl 0))):
  Calls prog 25 #[.slice (some ⟨B,0,none⟩) 2 2] w (fi (.complex .f64 (fl (n+1)) (fl 0)) w):=by
 have r1:=CN 0 0 n 0 (by decide) (by decide) (by omega) (by decide) (by omega) (by decide);have r2:=CN n 0 1 0 (by omega) (by decide) (by decide) (by decide) (by omega) (by decide);rw [Int.zero_add,Int.zero_add,oz]at r1;rw [Int.zero_add,oz]at r2;rw [oz]at h0 h1;go_enter func25,ntmps25;go_wp2_with fail;refine dq 3 ?_;rw [cI];go_wp2_with fail;rw [cI];go_wp2_with fail;rw [cI];go_wp2;go_ret;rw [oz];exact⟨rfl,an _ _⟩
end Go.Proofs.YtjmeglibedbljaaGreatDoor
