import Derived.Test.YtjmeglibedbljaaGreatDoorRunWorldJ12
import Derived.Laws.ComplexArith
import Derived.WalkLawsBesides
namespace Go.Proofs.YtjmeglibedbljaaGreatDoor
set_option maxRecDepth 100000
set_option maxHeartbeats 20000000
open Go.RowKit Tryz
open Lib renaming hid->V
set_option linter.all false
theorem gq.pass {w w3 w4:World} {b R:Nat} {pre post:List Value} {t:TypeId} {v v':qC} {r:gz × fP} {s:fP} {vv:Value} {xs:Array Value} (hb:Below w.heap.size w w3) (hX:eS w3 R xs 49) (hR:w.heap.size <=R) (hRb:R≠b) (h3:fV w3 b pre post t v s)
  (hs:fV w4 b pre post t v' r.2) (ht:kt v v' b w3 w4) (ho:ei 52 2 fR w4 w3.heap.size vv r.1.eu) (hn:∀g,eO vv g ->¬ v'.own b g) (a1 a2 a3:Int) (h1:r.1.kind=a1) (h2:r.1.lH=a2) (h4:r.1.fn=a3):
  gq b pre post t v r w (.returned (.agg #[.int .i64 a1, .int .i64 a2, .int .i64 a3,vv])) (lV w4 R a1 a2 a3 vv):=by
 subst h1 h2 h4;have Np:=gI w4 R r.1.kind r.1.lH r.1.fn vv;have hX4:=hX.keeps ht.1 (h3.not hX hRb (by decide));have hRn:¬ v'.own b R:=hs.not hX4 hRb (by decide);have hRl:=hX.lt;refine⟨v',vv,rfl,hs.keeps Np (fun g hg e=>hRn (e▸hg)),⟨((ep.et hb).trans ht.1 (fun g hg=> .inl hg)).trans Np (fun i hi=> .inr (by omega)),fun g hg=>(ht.2 g hg).imp id (fun h=>aQ hb.size h)⟩,?_,hn⟩;exact(ho.keeps Np (fun g hg e=>by have:=(eM ho hg).1;omega)).lower hb.size
theorem ji {w2:World} {R:Nat} {xs:Array Value} (hx:eS w2 R xs 49) (hs:xs.size=4) (a b c:Int) (v:Value):
  (loadVar 49 ⟨R,0,none⟩).run prog (lV w2 R a b c v)= .ok (.agg #[.int .i64 a, .int .i64 b, .int .i64 c,v]) (lV w2 R a b c v):=by
 obtain⟨x0,x1,x2,x3,rfl⟩:∃x0 x1 x2 x3,xs=#[x0,x1,x2,x3]:=by
  match xs,hs with
  | ⟨[x0,x1,x2,x3]⟩,_=>exact⟨x0,x1,x2,x3,rfl⟩
 exact(hx.vF _ _ _ _).sw
theorem zf (w:World) (k n:Int):eA 2 fR (w.alloc (.cells #[.int .i64 k, .int .i64 n] 52)) (.slice (some ⟨w.heap.size,0,none⟩) 1 1) [⟨k,n⟩]:=by
 have hx:=eS.new w #[.int .i64 k, .int .i64 n] 52;have ho:ei 52 2 fR (w.alloc (.cells #[.int .i64 k, .int .i64 n] 52)) w.heap.size (.slice (some ⟨w.heap.size,0,none⟩) 1 1) [⟨k,n⟩]:=
  ⟨by simp [fR], .inr ⟨w.heap.size,1,_,rfl,ag _,hx,by simp,by simp [maxLen],by simp,by simp [fR]⟩⟩
 exact ho.fT fK
theorem MY (w:World) (D X b g J cap:Nat) (pre post:List Value) (t:TypeId) (uv:Value) (us:List (Value × Value)) (u:Value × Value) (eu:List fi) (lo:List fg) (f:fg) (asks:Int) (a:Int) (bb:Int) (al:Option Addr) (nl cl:Nat)
  (NH:fV w b pre post t ⟨uv, .slice (some ⟨g,0,none⟩) (lo.length+1) cap,us++[u]⟩ ⟨eu,lo++[f],asks⟩) (hd:kx w D X b pre.length g (lo.length*5) J) (hn:eu.length <=50000) (Qk: -1 <=f.pc/\f.pc <=1000000):
  Calls prog 58 #[.pointer (some ⟨D,0,none⟩), .agg #[.int .i64 1, .int .i64 a, .int .i64 bb, .slice al nl cl]] w (gq b pre post t ⟨uv, .slice (some ⟨g,0,none⟩) (lo.length+1) cap,us++[u]⟩ (kB eu [] ⟨eu,lo++[f],asks⟩ lo f) w):=by
 have Nx:=(an w.heap.size w).alloc (ag _) (.cells #[.int .i64 1, .int .i64 a, .int .i64 bb, .slice al nl cl] 39);have No:=Nx.alloc Nx.size (.cells #[.int .i64 0, .int .i64 0, .int .i64 0, .slice none 0 0] 49);have Qm:=(eS.new w #[.int .i64 1, .int .i64 a, .int .i64 bb, .slice al nl cl] 39).alloc (.cells #[.int .i64 0, .int .i64 0, .int .i64 0, .slice none 0 0] 49);have Pd:=eS.new (w.alloc (.cells #[.int .i64 1, .int .i64 a, .int .i64 bb, .slice al nl cl] 39)) #[.int .i64 0, .int .i64 0, .int .i64 0, .slice none 0 0] 49;rw [aC]at Pd;have N2:=NH.jE.lt;have HI:=V Qm;have HX:=V Pd;have HB:=V No;have Nn:=V (NH.below No);have HD:=V (hd.below No);clear Nx No Qm Pd NH hd;go_enter func58,ntmps58;go_wp2_with fail;obtain⟨w2,PE⟩:∃w2,w2=(w.alloc (.cells #[.int .i64 1, .int .i64 a, .int .i64 bb, .slice al nl cl] 39)).alloc (.cells #[.int .i64 0, .int .i64 0, .int .i64 0, .slice none 0 0] 49):=⟨_,rfl⟩;rw [<- PE]at HI HX HB Nn HD⊢;have HSZ:=V (show w2.heap.size=w.heap.size+1+1 by rw [PE];simp);clear PE;refine(sK _ D X b g J cap pre post t uv us u eu [] [] lo f asks _ 0 rfl (by rw [bR];exact Nn.out) HD.out (eA.nil _) (by simp;omega) Qk).mono ?_;rw [bR];rintro e w4 ⟨v',vv,rfl,O2,Ps,OM,QE⟩;obtain⟨r,hr⟩:∃r,(kB eu [] ⟨eu,lo++[f],asks⟩ lo f)=r:=⟨_,rfl⟩;rw [hr]at O2 OM⊢;have OU:=V hr;obtain⟨Su,Sv,rfl,-,-⟩:=OM.slice;have Pt:=V (HX.out.keeps Ps.1 (Nn.out.not HX.out (by omega) (by decide)));have QZ:=V O2;have Sf:=V Ps;have Q7:=V OM;have SU:=V QE;clear O2 Ps OM QE hr;simp only [lq];obtain⟨⟨x0,x1,x2,x3⟩,z0,z1,z2,z3⟩:=Pt.out.four;go_wp2_with fail;refine aF (eH rfl _ _ rfl (ji Pt.out rfl r.1.kind r.1.lH r.1.fn (.slice Su r.1.eu.length Sv))) rfl ?_;rw [OU.out];exact gq.pass HB.out HX.out (by omega) (by omega) Nn.out QZ.out Sf.out Q7.out SU.out _ _ _ rfl rfl rfl
theorem JH (w:World) (D X b g J cap:Nat) (pre post:List Value) (t:TypeId) (uv:Value) (us:List (Value × Value)) (u:Value × Value) (eu:List fi) (lo:List fg) (f:fg) (asks:Int) (a:Int) (bb:Int) (al:Option Addr) (nl cl:Nat)
  (NH:fV w b pre post t ⟨uv, .slice (some ⟨g,0,none⟩) (lo.length+1) cap,us++[u]⟩ ⟨eu,lo++[f],asks⟩) (hd:kx w D X b pre.length g (lo.length*5) J) (hn:eu.length <=50000) (Qk: -1 <=f.pc/\f.pc <=1000000):
  Calls prog 58 #[.pointer (some ⟨D,0,none⟩), .agg #[.int .i64 65, .int .i64 a, .int .i64 bb, .slice al nl cl]] w (gq b pre post t ⟨uv, .slice (some ⟨g,0,none⟩) (lo.length+1) cap,us++[u]⟩ (kB eu [⟨1,a⟩] ⟨eu,lo++[f],asks⟩ lo f) w):=by
 have Nx:=(an w.heap.size w).alloc (ag _) (.cells #[.int .i64 65, .int .i64 a, .int .i64 bb, .slice al nl cl] 39);have No:=Nx.alloc Nx.size (.cells #[.int .i64 0, .int .i64 0, .int .i64 0, .slice none 0 0] 49);have Qm:=(eS.new w #[.int .i64 65, .int .i64 a, .int .i64 bb, .slice al nl cl] 39).alloc (.cells #[.int .i64 0, .int .i64 0, .int .i64 0, .slice none 0 0] 49);have Pd:=eS.new (w.alloc (.cells #[.int .i64 65, .int .i64 a, .int .i64 bb, .slice al nl cl] 39)) #[.int .i64 0, .int .i64 0, .int .i64 0, .slice none 0 0] 49;rw [aC]at Pd;have N2:=NH.jE.lt;have HI:=V Qm;have HX:=V Pd;have HB:=V No;have Nn:=V (NH.below No);have HD:=V (hd.below No);clear Nx No Qm Pd NH hd;have y1:=HI.out.cell 1;simp only [aM,aK,aT]at y1;go_enter func58,ntmps58;go_wp2_with fail;obtain⟨w2,PE⟩:∃w2,w2=(w.alloc (.cells #[.int .i64 65, .int .i64 a, .int .i64 bb, .slice al nl cl] 39)).alloc (.cells #[.int .i64 0, .int .i64 0, .int .i64 0, .slice none 0 0] 49):=⟨_,rfl⟩;rw [<- PE]at HI HX HB Nn HD⊢;have HSZ:=V (show w2.heap.size=w.heap.size+1+1 by rw [PE];simp);clear PE;clear y1;have hb:=(an w2.heap.size w2).alloc (ag _) (.cells #[.int .i64 1, .int .i64 a] 52);have HP:=V (zf w2 1 a);replace HX:=V (HX.out.below hb HX.out.lt);replace HB:=V (HB.out.trans (hb.mono HB.out.size));replace Nn:=V (Nn.out.below hb);replace HD:=V (HD.out.below hb);clear hb;rw [HSZ.out]at HP;refine(sK _ D X b g J cap pre post t uv us u eu [] [⟨1,a⟩] lo f asks _ 0 rfl (by rw [bR];exact Nn.out) HD.out HP.out (by simp;omega) Qk).mono ?_;rw [bR];rintro e w4 ⟨v',vv,rfl,O2,Ps,OM,QE⟩;obtain⟨r,hr⟩:∃r,(kB eu [⟨1,a⟩] ⟨eu,lo++[f],asks⟩ lo f)=r:=⟨_,rfl⟩;rw [hr]at O2 OM⊢;have OU:=V hr;obtain⟨Su,Sv,rfl,-,-⟩:=OM.slice;have Pt:=V (HX.out.keeps Ps.1 (Nn.out.not HX.out (by omega) (by decide)));have QZ:=V O2;have Sf:=V Ps;have Q7:=V OM;have SU:=V QE;clear O2 Ps OM QE hr;simp only [lq];obtain⟨⟨x0,x1,x2,x3⟩,z0,z1,z2,z3⟩:=Pt.out.four;go_wp2_with fail;refine aF (eH rfl _ _ rfl (ji Pt.out rfl r.1.kind r.1.lH r.1.fn (.slice Su r.1.eu.length Sv))) rfl ?_;rw [OU.out];exact gq.pass HB.out HX.out (by omega) (by omega) Nn.out QZ.out Sf.out Q7.out SU.out _ _ _ rfl rfl rfl
def oS (n:Int):Prop:= -2147483648 <=n/\n <=2147483647
theorem oS.may {n:Int} (h:oS n):decide (fi.may ⟨1,n⟩)=true:=ay (by
 unfold fi.may;exact .inr ⟨rfl,h.1,h.2⟩)
theorem sD (n:Int):oS (wrap32 n):=by
 unfold oS wrap32;omega
theorem yK (n:Int) (w:World):Calls prog 62 #[.int .i64 1, .int .i64 n] w (fX (.agg #[.int .i64 1, .int .i64 (wrap32 n)]) w):=by
 have hw:=sD n;unfold oS at hw;go_enter func62,ntmps62;go_wp2_with fail;exact aF (eH rfl _ _ rfl (eS.new w #[.int .i64 1, .int .i64 (wrap32 n)] 52).mj) rfl ⟨rfl,(an _ _).alloc (ag _) _⟩
theorem CT (w:World):Calls prog 234 #[.int .i64 1] w (fX (.int .i64 32) w):=by
 go_enter func234,ntmps234;go_wp2;go_ret;exact⟨rfl,an _ _⟩
theorem G8 (n:Int) (w:World):Calls prog 231 #[.agg #[.int .i64 1, .int .i64 n]] w (fun e w'=>∃x,e= .returned (.int .u64 x)/\Below w.heap.size w w'):=by
 go_enter func231,ntmps231;go_wp2;go_ret;exact⟨_,rfl,(an _ _).alloc (ag _) _⟩
theorem Al (w:World) (a b c d:Int):Below w.heap.size w ((w.alloc (.cells #[.int .i64 a, .int .i64 b] 52)).alloc (.cells #[.int .i64 c, .int .i64 d] 52))/\
  eS ((w.alloc (.cells #[.int .i64 a, .int .i64 b] 52)).alloc (.cells #[.int .i64 c, .int .i64 d] 52)) w.heap.size #[.int .i64 a, .int .i64 b] 52/\
  eS ((w.alloc (.cells #[.int .i64 a, .int .i64 b] 52)).alloc (.cells #[.int .i64 c, .int .i64 d] 52)) (w.heap.size+1) #[.int .i64 c, .int .i64 d] 52:=by
 have hb:=(an w.heap.size w).alloc (ag _) (.cells #[.int .i64 a, .int .i64 b] 52);refine⟨hb.alloc hb.size _,(eS.new w _ _).alloc _,?_⟩;have:=eS.new (w.alloc (.cells #[.int .i64 a, .int .i64 b] 52)) #[.int .i64 c, .int .i64 d] 52
 rwa [aC]at this
theorem Gs (m n:Int) (w:World) (hm:oS m) (hn:oS n):Calls prog 239 #[.int .i64 106, .agg #[.int .i64 1, .int .i64 m], .agg #[.int .i64 1, .int .i64 n]] w (fX (.int .i64 (m+n)) w):=by
 obtain⟨NG,ha0,Rq⟩:=Al w 1 m 1 n;unfold oS at hm hn;go_enter func239,ntmps239;go_wp2_with fail;generalize(w.alloc (.cells #[.int .i64 1, .int .i64 m] 52)).alloc (.cells #[.int .i64 1, .int .i64 n] 52)=w1 at NG ha0 Rq⊢;refine(CT w1).mono ?_;rintro e w2 ⟨rfl,hb⟩;replace ha0:=ha0.below hb ha0.lt;replace Rq:=Rq.below hb Rq.lt;replace NG:=NG.trans (hb.mono NG.size);clear hb;obtain⟨x0,x1,-,-⟩:=Rq.two;go_wp2_with fail;clear x0 x1;refine(G8 n w2).mono ?_;rintro e w3 ⟨ux,rfl,hb⟩;replace ha0:=ha0.below hb ha0.lt;replace Rq:=Rq.below hb Rq.lt;replace NG:=NG.trans (hb.mono NG.size);clear hb;obtain⟨x0,x1,-,-⟩:=Rq.two;obtain⟨y0,y1,-,-⟩:=ha0.two;go_wp2;go_ret;exact⟨rfl,NG⟩
def C9 (m n:Int) (X Y bl off:Nat) (w:World):Prop:=
 (w.cell? ⟨X,0,none⟩=some (.int .i64 1)/\w.cell? ⟨X,1,none⟩=some (.int .i64 m))/\(w.cell? ⟨Y,0,none⟩=some (.int .i64 1)/\w.cell? ⟨Y,1,none⟩=some (.int .i64 n))/\w.cell? ⟨bl,off,none⟩=some (.int .i64 1)/\w.cell? ⟨bl,off+1,none⟩=some (.int .i64 1)
theorem C9.below {m n:Int} {X Y bl off:Nat} {w w':World} (h:C9 m n X Y bl off w) (hb:Below w.heap.size w w'):C9 m n X Y bl off w':=by
 obtain⟨⟨h1,h2⟩,⟨h3,h4⟩,h5,h6⟩:=h;have k:=(Ext.et hb).1;exact⟨⟨k _ _ h1,k _ _ h2⟩,⟨k _ _ h3,k _ _ h4⟩,k _ _ h5,k _ _ h6⟩
theorem Ks (m n:Int) (w:World) (hm:oS m) (hn:oS n):Calls prog 135 #[.int .i64 106, .agg #[.int .i64 1, .int .i64 m], .agg #[.int .i64 1, .int .i64 n]] w (fX (.tuple #[.agg #[.int .i64 1, .int .i64 (wrap32 (m+n))], .int .i64 0]) w):=by
 obtain⟨NG,ha0,Rq⟩:=Al w 1 m 1 n;have HB:=V (NG.alloc NG.size (.cells #[.int .i64 0, .int .i64 0] 52));have HA:=V (ha0.alloc (.cells #[.int .i64 0, .int .i64 0] 52));have HC:=V (Rq.alloc (.cells #[.int .i64 0, .int .i64 0] 52));have hx:=eS.new ((w.alloc (.cells #[.int .i64 1, .int .i64 m] 52)).alloc (.cells #[.int .i64 1, .int .i64 n] 52)) #[.int .i64 0, .int .i64 0] 52;simp only [aC]at hx;have HX:=V hx;clear NG ha0 Rq hx;go_enter func135,ntmps135;go_wp2_with fail;generalize((w.alloc (.cells #[.int .i64 1, .int .i64 m] 52)).alloc (.cells #[.int .i64 1, .int .i64 n] 52)).alloc (.cells #[.int .i64 0, .int .i64 0] 52)=w1 at HB HA HC HX⊢;refine(rO 106 w1 (w.heap.size+1+1) HX.out.lt).mono ?_;rintro e w2 ⟨kv,rfl,hl,hb⟩;have hk:fh 106=([1,1],1,true):=by decide+kernel
 rw [hk]at hl⊢;obtain⟨bl,off,cap,rfl,-,NX,-,PV⟩:=eA.at (i:=0) hl rfl;obtain⟨bl2,NR,Nr,he,-,-,-,Ow⟩:=eA.at (i:=1) hl rfl;injection he with OW _ _;injection OW with OW;injection OW with OW OZ;subst OW OZ;have k0:w2.cell? ⟨bl,off,none⟩=some (.int .i64 1):=(gm (PV 0 _ rfl)).2;have N2:bl≠w.heap.size+1+1:=by
  have:=(gm (PV 0 _ rfl)).1;simpa using this
 have k1:w2.cell? ⟨bl,off+1,none⟩=some (.int .i64 1):=(gm (Ow 0 _ rfl)).2;replace HA:=V (HA.out.below hb HA.out.lt).drew;replace HC:=V (HC.out.below hb HC.out.lt).drew;replace HX:=V (HX.out.below hb HX.out.lt).drew;replace HB:=V (HB.out.trans (hb.mono HB.out.size)).drew;have hS:C9 m n w.heap.size (w.heap.size+1) bl off w2.drew:=⟨⟨HA.out.two.1,HA.out.two.2.1⟩,⟨HC.out.two.1,HC.out.two.2.1⟩,k0,k1⟩;have HS:=V hS;clear k0 k1 PV Ow hl hb hk;go_wp2_with fail;refine eB (C9 m n w.heap.size (w.heap.size+1) bl off) (up 0 9 ((9,false)::up 10 4 ((14,false)::up 15 18 []))) (by kernel_rfl) (by kernel_rfl) hS ?_;clear hS;generalize w2.drew=w3 at HB HA HC HX HS⊢;iterate 9 (first | (apply sk rfl rfl;simp only [pt]) | (apply eo rfl rfl rfl;·(rintro w' ⟨⟨t0,t1⟩,⟨t2,t3⟩,t4,t5⟩;go_wp2;exact⟨rfl,rfl,rfl⟩)))
 refine ew rfl rfl ?_;go_wp2_with fail;refine(mH ⟨1,m⟩ w3).mono ?_;rintro e w4 ⟨rfl,hb⟩;have hq:decide (fi.may ⟨1,m⟩)=true:=hm.may;rw [hq];replace HA:=V (HA.out.below hb HA.out.lt);replace HC:=V (HC.out.below hb HC.out.lt);replace HX:=V (HX.out.below hb HX.out.lt);replace HB:=V (HB.out.trans (hb.mono HB.out.size));replace HS:=V (HS.out.below hb);clear hb hq;go_wp2_with fail;refine⟨HS.out,?_⟩;iterate 4 (first | (apply sk rfl rfl;simp only [pt]) | (apply eo rfl rfl rfl;·(rintro w' ⟨⟨t0,t1⟩,⟨t2,t3⟩,t4,t5⟩;go_wp2;exact⟨rfl,rfl,rfl⟩)))
 refine ew rfl rfl ?_;go_wp2_with fail;refine(mH ⟨1,n⟩ w4).mono ?_;rintro e w5 ⟨rfl,hb⟩;have hq:decide (fi.may ⟨1,n⟩)=true:=hn.may;rw [hq];replace HA:=V (HA.out.below hb HA.out.lt);replace HC:=V (HC.out.below hb HC.out.lt);replace HX:=V (HX.out.below hb HX.out.lt);replace HB:=V (HB.out.trans (hb.mono HB.out.size));replace HS:=V (HS.out.below hb);clear hb hq;go_wp2_with fail;refine⟨HS.out,?_⟩;iterate 18 (first | (apply sk rfl rfl;simp only [pt]) | (apply eo rfl rfl rfl;·(rintro w' ⟨⟨t0,t1⟩,⟨t2,t3⟩,t4,t5⟩;go_wp2;exact⟨rfl,rfl,rfl⟩)))
 refine eW ?_;refine aA ?_;go_wp2_with fail;refine(rv 106 w5).mono ?_;rintro e w6 ⟨rfl,hb⟩;have hk:tR 106=(1,106):=by decide+kernel
 rw [hk];replace HA:=V (HA.out.below hb HA.out.lt);replace HC:=V (HC.out.below hb HC.out.lt);replace HX:=V (HX.out.below hb HX.out.lt);replace HB:=V (HB.out.trans (hb.mono HB.out.size));replace HS:=V (HS.out.below hb);clear hb hk;go_wp2_with fail;refine(iX 106 109 112 w6).mono ?_;rintro e w7 ⟨rfl,hb⟩;have hk:mE 106 109 112=false:=by decide
 rw [hk];replace HA:=V (HA.out.below hb HA.out.lt).drew;replace HC:=V (HC.out.below hb HC.out.lt).drew;replace HX:=V (HX.out.below hb HX.out.lt).drew;replace HB:=V (HB.out.trans (hb.mono HB.out.size)).drew;have hS:=(HS.out.below hb).below (an _ _).drew;clear hb hk;go_wp2_with fail;refine eB (C9 m n w.heap.size (w.heap.size+1) bl off) (up 0 5 ((5,false)::(6,false)::(7,false)::(8,true)::[])) (by kernel_rfl) (by kernel_rfl) hS ?_;replace HS:=V hS;clear hS;generalize w7.drew=w8 at HB HA HC HX HS⊢;iterate 5 (first | (apply sk rfl rfl;simp only [pt]) | (apply eo rfl rfl rfl;·(rintro w' ⟨⟨t0,t1⟩,⟨t2,t3⟩,t4,t5⟩;go_wp2;exact⟨rfl,rfl,rfl⟩)))
 refine ew rfl rfl ?_;go_wp2_with fail;refine(Gs m n w8 hm hn).mono ?_;rintro e w9 ⟨rfl,hb⟩;replace HX:=V (HX.out.below hb HX.out.lt);replace HB:=V (HB.out.trans (hb.mono HB.out.size));replace HS:=V (HS.out.below hb);clear hb;go_wp2_with fail;refine⟨HS.out,?_⟩;refine ew rfl rfl ?_;go_wp2_with fail;refine(yK (m+n) w9).mono ?_;rintro e w10 ⟨rfl,hb⟩;replace HX:=V (HX.out.below hb HX.out.lt);replace HB:=V (HB.out.trans (hb.mono HB.out.size));replace HS:=V (HS.out.below hb);clear hb;go_wp2_with fail;refine⟨HS.out,?_⟩;refine ew rfl rfl ?_;obtain⟨x0,x1,z0,z1⟩:=HX.out.two;go_wp2_with fail;have Np:=fQ w10 (w.heap.size+1+1) (.int .i64 1) (.int .i64 (wrap32 (m+n)));have Qj:=HX.out.nC (.int .i64 1) (.int .i64 (wrap32 (m+n)));have hS:C9 m n w.heap.size (w.heap.size+1) bl off ((w10.setCell ⟨w.heap.size+1+1,0,none⟩ (.int .i64 1)).setCell ⟨w.heap.size+1+1,1,none⟩ (.int .i64 (wrap32 (m+n)))):=by
  obtain⟨⟨h1,h2⟩,⟨h3,h4⟩,h5,h6⟩:=HS.out;have key:∀{a:Addr} {v:Value},w10.cell? a=some v ->a.block≠w.heap.size+1+1 ->((w10.setCell ⟨w.heap.size+1+1,0,none⟩ (.int .i64 1)).setCell ⟨w.heap.size+1+1,1,none⟩ (.int .i64 (wrap32 (m+n)))).cell? a=some v:=
   fun ha Ox=>(Np.cell (aO w10 _ ha) Ox).trans ha
  exact⟨⟨key h1 (by simp;omega),key h2 (by simp;omega)⟩,⟨key h3 (by simp),key h4 (by simp)⟩,key h5 N2,key h6 N2⟩
 refine⟨hS,?_⟩;have HL:=V Qj.mj;have Pm:=V (HB.out.trans (Np.below HB.out.size (fun i hi=>by omega)));clear Np Qj x0 x1 z0 z1 hS;iterate 1 (first | (apply sk rfl rfl;simp only [pt]) | (apply eo rfl rfl rfl;·(rintro w' ⟨⟨t0,t1⟩,⟨t2,t3⟩,t4,t5⟩;go_wp2;exact⟨rfl,rfl,rfl⟩)))
 refine eW ?_;refine aA ?_;go_wp2_with fail;exact aF (fy rfl _ _ rfl HL.out) rfl ⟨rfl,Pm.out⟩
section
def sd (j:Nat):List Edge ->Bool
 | []=>true
 | e::es=>(!Region.binds .any e || decide (e.on < j))&&sd j es
def Db:Nat ->List Oper ->Bool
 | _,[]=>true
 | j,o::rest=>sd j o.after.toList&&Db (j+1) rest
def kh (L:Array Bool):List Edge ->Prop
 | []=>True
 | e::es=>(Region.binds .any e=true ->L.getD e.on false=true)/\kh L es
def qG (P:Program) (ops:List Oper) (Q:Exit ->Act ->World ->Prop) (I:Array Bool ->Act ->World ->Prop):Nat ->List Oper ->Prop
 | _,[]=>True
 | j,o::rest=>(∀L a w,L.size=ops.length ->L.getD j false=false ->kh L o.after.toList ->I L a w ->kI ops o.guard a=true/\wpList P #[] (og Q (fun _=>True) (I (L.setIfInBounds j true))) [bare o] a w)/\qG P ops Q I (j+1) rest
theorem ua {j:Nat}:∀{l:List Edge},sd j l=true ->∀e∈l,Region.binds .any e=true ->e.on < j
 | [],_,e,he,_=>by cases he
 | x::l,h,e,he,hb=>by
  simp only [sd,bj,dQ,du,cR]at h;rcases bx.1 he with rfl | he
  ·rcases h.1 with h1 | h1
   ·rw [h1]at hb;cases hb
   ·exact h1
  ·exact ua h.2 e he hb
theorem BN:∀{l:List Oper} {k j:Nat} {o:Oper},Db k l=true ->l[j]?=some o ->sd (k+j) o.after.toList=true
 | [],_,j,o,_,h=>by simp at h
 | x::l,k,0,o,hk,h=>by
  simp only [Db,bj]at hk;simp at h;subst h;exact hk.1
 | x::l,k,j+1,o,hk,h=>by
  simp only [Db,bj]at hk;have:=BN (j:=j) hk.2 (by simpa using h)
  rwa [show k+1+j=k+(j+1)by omega]at this
theorem vi {L:Array Bool}:∀{l:List Edge},(∀e∈l,Region.binds .any e=true ->L.getD e.on false=true) ->kh L l
 | [],_=>trivial
 | x::l,h=>⟨h x (by simp),vi (fun e he=>h e (by simp [he]))⟩
theorem qX {P:Program} {ops:List Oper} {Q:Exit ->Act ->World ->Prop} {I:Array Bool ->Act ->World ->Prop}:∀{l:List Oper} {k j:Nat} {o:Oper},qG P ops Q I k l ->l[j]?=some o ->
  ∀L a w,L.size=ops.length ->L.getD (k+j) false=false ->kh L o.after.toList ->I L a w ->kI ops o.guard a=true/\wpList P #[] (og Q (fun _=>True) (I (L.setIfInBounds (k+j) true))) [bare o] a w
 | [],_,_,_,_,h=>by simp at h
 | x::l,k,0,o,hk,h=>by
  simp at h;subst h;exact hk.1
 | x::l,k,j+1,o,hk,h=>by
  have:=qX (j:=j) hk.2 (by simpa using h)
  rwa [show k+1+j=k+(j+1)by omega]at this
theorem xV {ops:List Oper} {L:Array Bool} (hac:Db 0 ops=true) (hL:L.size=ops.length) (h:Region.ready .any ops.toArray L=[]):∀n i,i < n ->i < ops.length ->L.getD i false=true
 | 0,i,hi,_=>by omega
 | n+1,i,hi,hil=>by
  cases hb:L.getD i false with
  | true=>rfl
  | false=>
   exfalso;have hmem:i∈Region.ready .any ops.toArray L:=by
    unfold Region.ready;rw [List.mem_filter];refine⟨by simpa using hil,?_⟩;have h1:L.getD i true=false:=by
     have hs:i < L.size:=by omega
     simpa [hs] using hb
    rw [h1];have h2:=aq hil;simp only [aM,h2,bA,dM,Bool.not_false,cn,Array.all_eq_true'];intro e he;have h3:=BN hac h2;rw [bT]at h3;cases PD:Region.binds .any e with
    | false=>rfl
    | true=>
     have h4:=ua h3 e (by simpa using he) PD;have h5:=xV hac hL h n e.on (by omega) (by omega);simp [h5]
   rw [h]at hmem;cases hmem
theorem wJ {P:Program} {ops:List Oper} {Q:Exit ->Act ->World ->Prop} (I:Array Bool ->Act ->World ->Prop) (hac:Db 0 ops=true) (step:qG P ops Q I 0 ops) (last:∀L a w,(∀j,j < ops.length ->L.getD j false=true) ->I L a w ->Q .normal a w):
  ∀(fuel:Nat) (L:Array Bool) (a:Act) (w:World),L.size=ops.length ->((List.range ops.length).filter fun i=> !L.getD i false).length <=fuel ->I L a w ->wpAnyH P .any ops.toArray Q (fun _=>True) fuel L a w
 | 0,L,a,w,hL,hc,h=>by
  have N5:∀j,j < ops.length ->L.getD j false=true:=by
   intro j hj;cases hb:L.getD j false with
   | true=>rfl
   | false=>
    have:j∈(List.range ops.length).filter fun i=> !L.getD i false:=by
     rw [List.mem_filter];exact⟨by simpa using hj,by rw [hb];rfl⟩
    have h0:=aI (Nat.le_zero.1 hc);rw [h0]at this;cases this
  refine⟨?_,last L a w N5 h⟩;unfold Region.ready;rw [List.filter_eq_nil_iff];intro i hi;have hi2:i < ops.length:=by simpa using hi
  have h1:=N5 i hi2;have hs:i < L.size:=by omega
  have h2:L.getD i true=true:=by simpa [hs] using h1
  rw [h2];simp
 | fuel+1,L,a,w,hL,hc,h=>by
  refine⟨fun hr=>last L a w (fun j hj=>xV hac hL hr (j+1) j (by omega) hj) h,fun j hj=>?_⟩;obtain⟨RV,o,ho,N5⟩:=dK.1 hj;have NU:ops[j]?=some o:=by simpa using ho
  have hjl:j < ops.length:=(aG.1 NU).1;have NH:=qX step NU L a w hL (by
   have hs:j < L.size:=by omega
   simpa [hs] using RV) (vi fun e he hb=>by
   have:=N5 e (by simpa using he) hb;simpa using this) h
  rw [bT]at NH;refine kL (S:=fun _=>True) (K:=I (L.setIfInBounds j true)) trivial (fun a w _ hk=>?_) ⟨o,by simpa [n4] using NU, .inl ⟨NH.1,NH.2⟩⟩;refine wJ I hac step last fuel _ a w (by simpa using hL) ?_ hk;have Nu:((List.range ops.length).filter fun i=> !(L.setIfInBounds j true).getD i false).length < ((List.range ops.length).filter fun i=> !L.getD i false).length:=by
   have hsub:((List.range ops.length).filter fun i=> !(L.setIfInBounds j true).getD i false)=(((List.range ops.length).filter fun i=> !L.getD i false).filter fun i=>decide (i≠j)):=by
    rw [List.filter_filter];apply List.filter_congr;intro i hi;have hi2:i < L.size:=by rw [hL];simpa using hi
    by_cases q:i=j
    ·subst q
     simp [hi2]
    ·have q2:j≠i:=fun e=>q e.symm
     simp [hi2,q,q2]
   rw [hsub];refine List.length_filter_lt_length_iff_exists.2 ⟨j,?_,by simp⟩;rw [List.mem_filter];refine⟨by simpa using hjl,?_⟩;have hs:j < L.size:=by omega
   simp [hs]at RV⊢;exact RV
  omega
theorem uT {P:Program} {ops:List Oper} {Q:Exit ->Act ->World ->Prop} {id:Nat} {a:Act} {w:World} (I:Array Bool ->Act ->World ->Prop) (hm:P.follows .mixedOrders=true) (hac:Db 0 ops=true)
  (h0:I (Array.replicate ops.length false) a w.drew) (step:qG P ops (NoPanic Q) I 0 ops) (last:∀L a w,(∀j,j < ops.length ->L.getD j false=true) ->I L a w ->NoPanic Q .normal a w):(Code.region id ops.toArray true).wp P Q a w:=by
 refine dG (wp_region_held (S:=fun _=>True) hm ?_);refine wJ I hac step last _ _ a _ (by simp) ?_ (by simpa using h0);refine aQ (List.length_filter_le _ _) (by simp)
theorem jl {n k:Nat} (h:(Array.replicate n false).getD k false=true):False:=by
 by_cases hk:k < n
 ·simp [hk]at h
 ·simp [hk]at h
def nu (i j B:Nat) (Tq xs:Array Value) (t:TypeId) (L:Array Bool) (s:Value) (w:World):Prop:=
 (L.getD j false=true ->L.getD i false=true)/\(L.getD i false=true ->∃T,s= .pointer (some ⟨T,0,none⟩)/\B <=T/\eS w T (if L.getD j false=true then xs else Tq) t)
section
variable {i j k B:Nat} {Tq xs:Array Value} {t:TypeId} {L:Array Bool} {s:Value} {w w':World}
theorem jZ (h:k≠i):(L.setIfInBounds i true).getD k false=L.getD k false:=by
 have h2:i≠k:=fun e=>h e.symm;by_cases hk:k < L.size
 ·simp [hk,h2]
 ·simp [hk]
theorem nu.start (n:Nat):nu i j B Tq xs t (Array.replicate n false) s w:=⟨fun h=>(jl h).elim,fun h=>(jl h).elim⟩
theorem nu.below (h:nu i j B Tq xs t L s w) (hb:Below w.heap.size w w'):nu i j B Tq xs t L s w':=by
 refine⟨h.1,fun g=>?_⟩;obtain⟨T,h1,h2,h3⟩:=h.2 g;exact⟨T,h1,h2,h3.below hb h3.lt⟩
theorem nu.other (h:nu i j B Tq xs t L s w) (h1:i≠k) (h2:j≠k) (hb:Below w.heap.size w w'):nu i j B Tq xs t (L.setIfInBounds k true) s w':=by
 have:=h.below hb;unfold nu;rw [jZ h1,jZ h2];exact this
theorem nu.alloc (h:nu i j B Tq xs t L s w) (hi:L.getD i false=false) (hij:j≠i) (hB:B <=w.heap.size):nu i j B Tq xs t (L.setIfInBounds i true) (.pointer (some ⟨w.heap.size,0,none⟩)) (w.alloc (.cells Tq t)):=by
 have hj:L.getD j false=false:=by
  cases hb:L.getD j false with
  | false=>rfl
  | true=>rw [h.1 hb]at hi;cases hi
 unfold nu;rw [jZ hij,hj];refine⟨fun g=>(by cases g),fun _=>⟨_,rfl,hB,eS.new w Tq t⟩⟩
theorem nu.open (h:nu i j B Tq xs t L s w) (hi:L.getD i false=true) (hj:L.getD j false=false):∃T,s= .pointer (some ⟨T,0,none⟩)/\B <=T/\eS w T Tq t:=by
 obtain⟨T,h1,h2,h3⟩:=h.2 hi;rw [hj]at h3;exact⟨T,h1,h2,h3⟩
theorem nu.store {T n:Nat} (hi:L.getD i false=true) (hij:i≠j) (hL:L.size=n) (hjn:j < n) (hB:B <=T) (hk:eS w' T xs t):nu i j B Tq xs t (L.setIfInBounds j true) (.pointer (some ⟨T,0,none⟩)) w':=by
 have hj:(L.setIfInBounds j true).getD j false=true:=by simp [hL,hjn]
 unfold nu;rw [jZ hij,hj,hi];exact⟨fun _=>rfl,fun _=>⟨T,rfl,hB,hk⟩⟩
theorem nu.all (h:nu i j B Tq xs t L s w) (hi:L.getD i false=true) (hj:L.getD j false=true):∃T,s= .pointer (some ⟨T,0,none⟩)/\B <=T/\eS w T xs t:=by
 obtain⟨T,h1,h2,h3⟩:=h.2 hi;rw [hj]at h3;exact⟨T,h1,h2,h3⟩
end
theorem eJ {L:Array Bool} {j k:Nat} {p:Prop} (h:L.getD k false=true ->p) (hk:k≠j):(L.setIfInBounds j true).getD k false=true ->p:=fun g=>h (by rwa [jZ hk]at g)
end
def yk (op:Int):Prop:=¬ (op=40\/op=41\/op=44\/op=45\/op=54\/op=55\/op=58\/op=63\/op=64)
theorem Dj (op:Int) (Pc:yk op) (w:World):Calls prog 128 #[.int .i64 op] w (fX (.tuple #[.int .i64 0, .int .i64 0]) w):=by
 unfold yk at Pc;have f40:(op==40)=false:=eh (by omega);have f41:(op==41)=false:=eh (by omega);have f44:(op==44)=false:=eh (by omega);have f45:(op==45)=false:=eh (by omega);have f54:(op==54)=false:=eh (by omega);have f55:(op==55)=false:=eh (by omega);have f58:(op==58)=false:=eh (by omega);clear Pc;go_enter func128,ntmps128;go_wp2
 go_ret2
 exact⟨rfl,an _ _⟩
def Ng (w0 w:World) (T:Nat) (r:fi):Prop:=Below w0.heap.size w0 w/\w0.heap.size <=T/\eS w T #[.int .i64 r.kind, .int .i64 r.n] 52
def sc (eu:List fi) (r:fi) (tr:Int) (s:fP) (lo:List fg) (f:fg):gz × fP:=if tr=0 then kB eu [r] s lo f else(.DV tr,s)
def MF (WB:World) (D S0:Nat) (op:Int) (x y r:fi) (tr:Int) (L:Array Bool) (a0:Act) (w0':World):Prop:=(fun a' w'=>∃(PK:Value) (PL:Value) (PM:Value) (PN:Value) (PO:Value) (PQ:Value) (PR:Value) (PS:Value) (PT:Value) (PU:Value) (S4:Value) (S5:Value),a'=fr (.pointer (some ⟨D,0,none⟩)::gs a' 1 2 (.pointer (some ⟨S0,0,none⟩):: .pointer (some ⟨S0+1,0,none⟩)::gs a' 5 9 (S4::S5::gs a' 16 112 (PS::PK::PL::PM::PN::PO::PQ::PR::PT::PU::gs a' 138 8 []))))/\Below WB.heap.size WB w'/\nu 10 11 WB.heap.size #[.int .i64 0, .int .i64 0] #[.int .i64 r.kind, .int .i64 r.n] 52 L S4 w'/\(L.getD 0 false=true ->PK= .pointer (some ⟨S0,0,none⟩))/\(L.getD 1 false=true ->PL= .int .i64 op)/\(L.getD 2 false=true ->PM= .pointer (some ⟨D,0,none⟩))/\(L.getD 3 false=true ->PN= .agg #[.int .i64 x.kind, .int .i64 x.n])/\(L.getD 4 false=true ->PO= .pointer (some ⟨D,0,none⟩))/\(L.getD 5 false=true ->PQ= .agg #[.int .i64 y.kind, .int .i64 y.n])/\(L.getD 6 false=true ->PR= .tuple #[.agg #[.int .i64 r.kind, .int .i64 r.n], .int .i64 tr])/\(L.getD 7 false=true ->PS= .tuple #[.agg #[.int .i64 r.kind, .int .i64 r.n], .int .i64 tr])/\(L.getD 8 false=true ->PT= .agg #[.int .i64 r.kind, .int .i64 r.n])/\(L.getD 9 false=true ->PU= .int .i64 tr)/\(L.getD 12 false=true ->S5= .int .i64 tr)) a0 w0'
theorem Ez (w:World) (D X b g J cap:Nat) (pre post:List Value) (t:TypeId) (uv:Value) (us:List (Value × Value)) (u:Value × Value) (eu:List fi) (x y:fi) (lo:List fg) (fq:fg) (asks:Int) (op a bb:Int) (al:Option Addr) (nl cl:Nat) (r:fi) (tr:Int)
  (NH:fV w b pre post t ⟨uv, .slice (some ⟨g,0,none⟩) (lo.length+1) cap,us++[u]⟩ ⟨eu++[x,y],lo++[fq],asks⟩) (hd:kx w D X b pre.length g (lo.length*5) J) (hn:eu.length <=50000) (Qk: -1 <=fq.pc/\fq.pc <=1000000)
  (Pc:yk op) (hk:(fh op).1.length=2) (htwo:∀w',Calls prog 135 #[.int .i64 op, .agg #[.int .i64 x.kind, .int .i64 x.n], .agg #[.int .i64 y.kind, .int .i64 y.n]] w' (fX (.tuple #[.agg #[.int .i64 r.kind, .int .i64 r.n], .int .i64 tr]) w')):
  Calls prog 97 #[.pointer (some ⟨D,0,none⟩), .agg #[.int .i64 op, .int .i64 a, .int .i64 bb, .slice al nl cl]] w (gq b pre post t ⟨uv, .slice (some ⟨g,0,none⟩) (lo.length+1) cap,us++[u]⟩ (sc eu r tr ⟨eu++[x,y],lo++[fq],asks⟩ lo fq) w):=by
 have Nx:=(an w.heap.size w).alloc (ag _) (.cells #[.int .i64 op, .int .i64 a, .int .i64 bb, .slice al nl cl] 39);have No:=Nx.alloc Nx.size (.cells #[.int .i64 0, .int .i64 0, .int .i64 0, .slice none 0 0] 49);have Qm:=(eS.new w #[.int .i64 op, .int .i64 a, .int .i64 bb, .slice al nl cl] 39).alloc (.cells #[.int .i64 0, .int .i64 0, .int .i64 0, .slice none 0 0] 49);have Pd:=eS.new (w.alloc (.cells #[.int .i64 op, .int .i64 a, .int .i64 bb, .slice al nl cl] 39)) #[.int .i64 0, .int .i64 0, .int .i64 0, .slice none 0 0] 49;rw [aC]at Pd;have N2:=NH.jE.lt;have HI:=V Qm;have HX:=V Pd;have HB:=V No;have Nn:=V (NH.below No);have HD:=V (hd.below No);have HTWO:=V htwo;have HK:=V hk;have HOP:=V Pc;have f63:(op==63)=false:=eh (by unfold yk at Pc;omega);have f64:(op==64)=false:=eh (by unfold yk at Pc;omega);have y0:=Qm.cell 0;simp only [aM,aK]at y0;clear Nx No Qm Pd NH hd htwo hk Pc;go_enter func97,ntmps97;go_wp2_with fail;obtain⟨w2,PE⟩:∃w2,w2=(w.alloc (.cells #[.int .i64 op, .int .i64 a, .int .i64 bb, .slice al nl cl] 39)).alloc (.cells #[.int .i64 0, .int .i64 0, .int .i64 0, .slice none 0 0] 49):=⟨_,rfl⟩;rw [<- PE]at HI HX HB Nn HD⊢;clear PE y0;refine(Dj op HOP.out w2).mono ?_;rintro e w1 ⟨rfl,hb⟩;replace HX:=V (HX.out.below hb HX.out.lt);replace HI:=V (HI.out.below hb HI.out.lt);replace HB:=V (HB.out.trans (hb.mono HB.out.size));replace Nn:=V (Nn.out.below hb);replace HD:=V (HD.out.below hb);clear hb;have y0:=HI.out.cell 0;simp only [aM,aK]at y0;go_wp2_with fail;clear y0;refine(rO op w1 w.heap.size HI.out.lt).mono ?_;rintro e w0 ⟨kv,rfl,hl,hb⟩;obtain⟨ak,ck,rfl,-,-⟩:=hl.sl;rw [HK.out];replace HX:=V (HX.out.below hb HX.out.lt);replace HI:=V (HI.out.below hb HI.out.lt);replace HB:=V (HB.out.trans (hb.mono HB.out.size));replace Nn:=V (Nn.out.below hb);replace HD:=V (HD.out.below hb);clear hb;clear hl;go_wp2_with fail;refine wp_cut (fun a' w'=>∃(T:Nat),a'=fr (.pointer (some ⟨D,0,none⟩)::gs a' 1 3 (.pointer (some ⟨w.heap.size+1,0,none⟩)::gs a' 5 9 (.pointer (some ⟨T,0,none⟩):: .int .i64 tr::gs a' 16 130 [])))/\Ng w0 w' T r) ?_ ?_
 ·have HI:=V HI.out.drew
  have HD:=V HD.out.drew;have Nn:=V Nn.out.drew;have HW:=V (an w0.heap.size w0).drew;clear HX HB;refine uT (MF w0.drew D w.heap.size op x y r tr) (by kernel_rfl) (by kernel_rfl) ?_ ?_ ?_
  ·exact⟨_,_,_,_,_,_,_,_,_,_,_,_,rfl,an _ _,nu.start _,fun h=>(jl h).elim,fun h=>(jl h).elim,fun h=>(jl h).elim,fun h=>(jl h).elim,fun h=>(jl h).elim,fun h=>(jl h).elim,fun h=>(jl h).elim,fun h=>(jl h).elim,fun h=>(jl h).elim,fun h=>(jl h).elim,fun h=>(jl h).elim⟩
  ·generalize w0.drew=w3 at HI HD Nn HW⊢
   refine⟨?_,?_,?_,?_,?_,?_,?_,?_,?_,?_,?_,?_,?_,trivial⟩
   ·rintro L a' w' hL hnl Og ⟨PK,PL,PM,PN,PO,PQ,PR,PS,PT,PU,S4,S5,Nm,hB,hX,h0,h1,h2,h3,h4,h5,h6,h7,h8,h9,Ph⟩
    dsimp only [fr,gs]at Nm;generalize slot a'=f' at Nm;subst Nm;have NV:=an w'.heap.size w';refine⟨rfl,?_⟩;dsimp only [bare];go_wp2;refine⟨trivial,?_⟩;exact⟨_,_,_,_,_,_,_,_,_,_,_,_,rfl,hB,hX.other (by decide) (by decide) NV,fun _=>rfl,eJ h1 (by decide),eJ h2 (by decide),eJ h3 (by decide),eJ h4 (by decide),eJ h5 (by decide),eJ h6 (by decide),eJ h7 (by decide),eJ h8 (by decide),eJ h9 (by decide),eJ Ph (by decide)⟩
   ·rintro L a' w' hL hnl Og ⟨PK,PL,PM,PN,PO,PQ,PR,PS,PT,PU,S4,S5,Nm,hB,hX,h0,h1,h2,h3,h4,h5,h6,h7,h8,h9,Ph⟩
    dsimp only [fr,gs]at Nm;generalize slot a'=f' at Nm;subst Nm;simp only [kh]at Og;obtain⟨e0,-⟩:=Og;obtain rfl:=h0 (e0 rfl);have y0:=HI.out.below hB HI.out.lt;have y0:=y0.cell 0;simp only [aM,aK]at y0;have NV:=an w'.heap.size w';refine⟨rfl,?_⟩;dsimp only [bare];go_wp2;refine⟨trivial,?_⟩;exact⟨_,_,_,_,_,_,_,_,_,_,_,_,rfl,hB,hX.other (by decide) (by decide) NV,fun _=>rfl,fun _=>rfl,eJ h2 (by decide),eJ h3 (by decide),eJ h4 (by decide),eJ h5 (by decide),eJ h6 (by decide),eJ h7 (by decide),eJ h8 (by decide),eJ h9 (by decide),eJ Ph (by decide)⟩
   ·rintro L a' w' hL hnl Og ⟨PK,PL,PM,PN,PO,PQ,PR,PS,PT,PU,S4,S5,Nm,hB,hX,h0,h1,h2,h3,h4,h5,h6,h7,h8,h9,Ph⟩
    dsimp only [fr,gs]at Nm;generalize slot a'=f' at Nm;subst Nm;have NV:=an w'.heap.size w';refine⟨rfl,?_⟩;dsimp only [bare];go_wp2;refine⟨trivial,?_⟩;exact⟨_,_,_,_,_,_,_,_,_,_,_,_,rfl,hB,hX.other (by decide) (by decide) NV,eJ h0 (by decide),eJ h1 (by decide),fun _=>rfl,eJ h3 (by decide),eJ h4 (by decide),eJ h5 (by decide),eJ h6 (by decide),eJ h7 (by decide),eJ h8 (by decide),eJ h9 (by decide),eJ Ph (by decide)⟩
   ·rintro L a' w' hL hnl Og ⟨PK,PL,PM,PN,PO,PQ,PR,PS,PT,PU,S4,S5,Nm,hB,hX,h0,h1,h2,h3,h4,h5,h6,h7,h8,h9,Ph⟩
    dsimp only [fr,gs]at Nm;generalize slot a'=f' at Nm;subst Nm;simp only [kh]at Og;obtain⟨e2,-⟩:=Og;obtain rfl:=h2 (e2 rfl);refine⟨rfl,?_⟩;dsimp only [bare];go_wp2_with fail;refine(GK w' D b pre.length 0 uv eu x y (HD.out.below hB).d1 (Nn.out.below hB).c0 (Nn.out.below hB).eu).mono ?_;rintro e w2 ⟨rfl,NV⟩;go_wp2;refine⟨trivial,?_⟩;exact⟨_,_,_,_,_,_,_,_,_,_,_,_,rfl,hB.trans (NV.mono hB.size),hX.other (by decide) (by decide) NV,eJ h0 (by decide),eJ h1 (by decide),fun _=>rfl,fun _=>rfl,eJ h4 (by decide),eJ h5 (by decide),eJ h6 (by decide),eJ h7 (by decide),eJ h8 (by decide),eJ h9 (by decide),eJ Ph (by decide)⟩
   ·rintro L a' w' hL hnl Og ⟨PK,PL,PM,PN,PO,PQ,PR,PS,PT,PU,S4,S5,Nm,hB,hX,h0,h1,h2,h3,h4,h5,h6,h7,h8,h9,Ph⟩
    dsimp only [fr,gs]at Nm;generalize slot a'=f' at Nm;subst Nm;have NV:=an w'.heap.size w';refine⟨rfl,?_⟩;dsimp only [bare];go_wp2;refine⟨trivial,?_⟩;exact⟨_,_,_,_,_,_,_,_,_,_,_,_,rfl,hB,hX.other (by decide) (by decide) NV,eJ h0 (by decide),eJ h1 (by decide),eJ h2 (by decide),eJ h3 (by decide),fun _=>rfl,eJ h5 (by decide),eJ h6 (by decide),eJ h7 (by decide),eJ h8 (by decide),eJ h9 (by decide),eJ Ph (by decide)⟩
   ·rintro L a' w' hL hnl Og ⟨PK,PL,PM,PN,PO,PQ,PR,PS,PT,PU,S4,S5,Nm,hB,hX,h0,h1,h2,h3,h4,h5,h6,h7,h8,h9,Ph⟩
    dsimp only [fr,gs]at Nm;generalize slot a'=f' at Nm;subst Nm;simp only [kh]at Og;obtain⟨e4,-⟩:=Og;obtain rfl:=h4 (e4 rfl);refine⟨rfl,?_⟩;dsimp only [bare];go_wp2_with fail;refine(Bv w' D b pre.length 0 uv (eu++[x]) y (HD.out.below hB).d1 (Nn.out.below hB).c0 (by rw [aL];exact(Nn.out.below hB).eu)).mono ?_;rintro e w2 ⟨rfl,NV⟩;go_wp2;refine⟨trivial,?_⟩;exact⟨_,_,_,_,_,_,_,_,_,_,_,_,rfl,hB.trans (NV.mono hB.size),hX.other (by decide) (by decide) NV,eJ h0 (by decide),eJ h1 (by decide),eJ h2 (by decide),eJ h3 (by decide),fun _=>rfl,fun _=>rfl,eJ h6 (by decide),eJ h7 (by decide),eJ h8 (by decide),eJ h9 (by decide),eJ Ph (by decide)⟩
   ·rintro L a' w' hL hnl Og ⟨PK,PL,PM,PN,PO,PQ,PR,PS,PT,PU,S4,S5,Nm,hB,hX,h0,h1,h2,h3,h4,h5,h6,h7,h8,h9,Ph⟩
    dsimp only [fr,gs]at Nm;generalize slot a'=f' at Nm;subst Nm;simp only [kh]at Og;obtain⟨e1,e3,e5,-⟩:=Og;obtain rfl:=h1 (e1 rfl);obtain rfl:=h3 (e3 rfl);obtain rfl:=h5 (e5 rfl);refine⟨rfl,?_⟩;dsimp only [bare];go_wp2_with fail;refine(HTWO.out w').mono ?_;rintro e w2 ⟨rfl,NV⟩;go_wp2;refine⟨trivial,?_⟩;exact⟨_,_,_,_,_,_,_,_,_,_,_,_,rfl,hB.trans (NV.mono hB.size),hX.other (by decide) (by decide) NV,eJ h0 (by decide),fun _=>rfl,eJ h2 (by decide),fun _=>rfl,eJ h4 (by decide),fun _=>rfl,fun _=>rfl,eJ h7 (by decide),eJ h8 (by decide),eJ h9 (by decide),eJ Ph (by decide)⟩
   ·rintro L a' w' hL hnl Og ⟨PK,PL,PM,PN,PO,PQ,PR,PS,PT,PU,S4,S5,Nm,hB,hX,h0,h1,h2,h3,h4,h5,h6,h7,h8,h9,Ph⟩
    dsimp only [fr,gs]at Nm;generalize slot a'=f' at Nm;subst Nm;simp only [kh]at Og;obtain⟨e6,-⟩:=Og;obtain rfl:=h6 (e6 rfl);have NV:=an w'.heap.size w';refine⟨rfl,?_⟩;dsimp only [bare];go_wp2;refine⟨trivial,?_⟩;exact⟨_,_,_,_,_,_,_,_,_,_,_,_,rfl,hB,hX.other (by decide) (by decide) NV,eJ h0 (by decide),eJ h1 (by decide),eJ h2 (by decide),eJ h3 (by decide),eJ h4 (by decide),eJ h5 (by decide),fun _=>rfl,fun _=>rfl,eJ h8 (by decide),eJ h9 (by decide),eJ Ph (by decide)⟩
   ·rintro L a' w' hL hnl Og ⟨PK,PL,PM,PN,PO,PQ,PR,PS,PT,PU,S4,S5,Nm,hB,hX,h0,h1,h2,h3,h4,h5,h6,h7,h8,h9,Ph⟩
    dsimp only [fr,gs]at Nm;generalize slot a'=f' at Nm;subst Nm;simp only [kh]at Og;obtain⟨e7,-⟩:=Og;obtain rfl:=h7 (e7 rfl);have NV:=an w'.heap.size w';refine⟨rfl,?_⟩;dsimp only [bare];go_wp2;refine⟨trivial,?_⟩;exact⟨_,_,_,_,_,_,_,_,_,_,_,_,rfl,hB,hX.other (by decide) (by decide) NV,eJ h0 (by decide),eJ h1 (by decide),eJ h2 (by decide),eJ h3 (by decide),eJ h4 (by decide),eJ h5 (by decide),eJ h6 (by decide),fun _=>rfl,fun _=>rfl,eJ h9 (by decide),eJ Ph (by decide)⟩
   ·rintro L a' w' hL hnl Og ⟨PK,PL,PM,PN,PO,PQ,PR,PS,PT,PU,S4,S5,Nm,hB,hX,h0,h1,h2,h3,h4,h5,h6,h7,h8,h9,Ph⟩
    dsimp only [fr,gs]at Nm;generalize slot a'=f' at Nm;subst Nm;simp only [kh]at Og;obtain⟨e7,-⟩:=Og;obtain rfl:=h7 (e7 rfl);have NV:=an w'.heap.size w';refine⟨rfl,?_⟩;dsimp only [bare];go_wp2;refine⟨trivial,?_⟩;exact⟨_,_,_,_,_,_,_,_,_,_,_,_,rfl,hB,hX.other (by decide) (by decide) NV,eJ h0 (by decide),eJ h1 (by decide),eJ h2 (by decide),eJ h3 (by decide),eJ h4 (by decide),eJ h5 (by decide),eJ h6 (by decide),fun _=>rfl,eJ h8 (by decide),fun _=>rfl,eJ Ph (by decide)⟩
   ·rintro L a' w' hL hnl Og ⟨PK,PL,PM,PN,PO,PQ,PR,PS,PT,PU,S4,S5,Nm,hB,hX,h0,h1,h2,h3,h4,h5,h6,h7,h8,h9,Ph⟩
    dsimp only [fr,gs]at Nm;generalize slot a'=f' at Nm;subst Nm;have NV:=(an w'.heap.size w').alloc (ag _) (.cells #[.int .i64 0, .int .i64 0] 52);refine⟨rfl,?_⟩;dsimp only [bare];go_wp2;refine⟨trivial,?_⟩;exact⟨_,_,_,_,_,_,_,_,_,_,_,_,rfl,hB.trans (NV.mono hB.size),hX.alloc hnl (by decide) hB.size,eJ h0 (by decide),eJ h1 (by decide),eJ h2 (by decide),eJ h3 (by decide),eJ h4 (by decide),eJ h5 (by decide),eJ h6 (by decide),eJ h7 (by decide),eJ h8 (by decide),eJ h9 (by decide),eJ Ph (by decide)⟩
   ·rintro L a' w' hL hnl Og ⟨PK,PL,PM,PN,PO,PQ,PR,PS,PT,PU,S4,S5,Nm,hB,hX,h0,h1,h2,h3,h4,h5,h6,h7,h8,h9,Ph⟩
    dsimp only [fr,gs]at Nm;generalize slot a'=f' at Nm;subst Nm;simp only [kh]at Og;obtain⟨e10,e8,-⟩:=Og;obtain rfl:=h8 (e8 rfl);obtain⟨T,rfl,hT,hTX⟩:=hX.open (e10 rfl) hnl;obtain⟨x0,x1,z0,z1⟩:=hTX.two;have Np:=fQ w' T (.int .i64 r.kind) (.int .i64 r.n);have Qj:=hTX.nC (.int .i64 r.kind) (.int .i64 r.n);refine⟨rfl,?_⟩;dsimp only [bare];go_wp2;refine⟨trivial,?_⟩;exact⟨_,_,_,_,_,_,_,_,_,_,_,_,rfl,hB.trans (Np.below hB.size (fun i hi=>by omega)),nu.store (e10 rfl) (by decide) hL (by decide) hT (Qj),eJ h0 (by decide),eJ h1 (by decide),eJ h2 (by decide),eJ h3 (by decide),eJ h4 (by decide),eJ h5 (by decide),eJ h6 (by decide),eJ h7 (by decide),fun _=>rfl,eJ h9 (by decide),eJ Ph (by decide)⟩
   ·rintro L a' w' hL hnl Og ⟨PK,PL,PM,PN,PO,PQ,PR,PS,PT,PU,S4,S5,Nm,hB,hX,h0,h1,h2,h3,h4,h5,h6,h7,h8,h9,Ph⟩
    dsimp only [fr,gs]at Nm;generalize slot a'=f' at Nm;subst Nm;simp only [kh]at Og;obtain⟨e9,-⟩:=Og;obtain rfl:=h9 (e9 rfl);have NV:=an w'.heap.size w';refine⟨rfl,?_⟩;dsimp only [bare];go_wp2;refine⟨trivial,?_⟩;exact⟨_,_,_,_,_,_,_,_,_,_,_,_,rfl,hB,hX.other (by decide) (by decide) NV,eJ h0 (by decide),eJ h1 (by decide),eJ h2 (by decide),eJ h3 (by decide),eJ h4 (by decide),eJ h5 (by decide),eJ h6 (by decide),eJ h7 (by decide),eJ h8 (by decide),fun _=>rfl,fun _=>rfl⟩
  ·generalize w0.drew=w3 at HI HD Nn HW⊢
   rintro L a' w' N5 ⟨PK,PL,PM,PN,PO,PQ,PR,PS,PT,PU,S4,S5,Nm,hB,hX,h0,h1,h2,h3,h4,h5,h6,h7,h8,h9,Ph⟩;dsimp only [fr,gs]at Nm;generalize slot a'=f' at Nm;subst Nm;obtain rfl:=h0 (N5 0 (by decide));obtain rfl:=h1 (N5 1 (by decide));obtain rfl:=h2 (N5 2 (by decide));obtain rfl:=h3 (N5 3 (by decide));obtain rfl:=h4 (N5 4 (by decide));obtain rfl:=h5 (N5 5 (by decide));obtain rfl:=h6 (N5 6 (by decide));obtain rfl:=h7 (N5 7 (by decide));obtain rfl:=h8 (N5 8 (by decide));obtain rfl:=h9 (N5 9 (by decide));obtain rfl:=Ph (N5 12 (by decide));obtain⟨T,rfl,hT,hTX⟩:=hX.all (N5 10 (by decide)) (N5 11 (by decide));have:=HW.out.size;exact⟨rfl,T,rfl,HW.out.trans (hB.mono HW.out.size),by omega,hTX⟩
 ·skip
  rintro a' w1 ⟨T,Nm,hJ⟩;dsimp only [fr,gs]at Nm;generalize slot a'=f at Nm;subst Nm;obtain⟨hb,hT1,hTX⟩:=hJ;replace HX:=V (HX.out.below hb HX.out.lt);replace HI:=V (HI.out.below hb HI.out.lt);replace HB:=V (HB.out.trans (hb.mono HB.out.size));replace Nn:=V (Nn.out.below hb);replace HD:=V (HD.out.below hb);clear hb;by_cases q:tr=0
  ·have f1:=kT q
   have HWR:=V (show sc eu r tr ⟨eu++[x,y],lo++[fq],asks⟩ lo fq=kB eu [r] ⟨eu++[x,y],lo++[fq],asks⟩ lo fq by unfold sc;rw [if_pos q]);clear q;obtain⟨x0,x1,-,-⟩:=hTX.two;go_wp2_with fail;clear x0 x1;have hb:=(an w1.heap.size w1).alloc (ag _) (.cells #[.int .i64 r.kind, .int .i64 r.n] 52);have HP:=V (zf w1 r.kind r.n);replace HX:=V (HX.out.below hb HX.out.lt);replace HI:=V (HI.out.below hb HI.out.lt);replace HB:=V (HB.out.trans (hb.mono HB.out.size));replace Nn:=V (Nn.out.below hb);replace HD:=V (HD.out.below hb);clear hb;refine(sK _ D X b g J cap pre post t uv us u eu [x,y] [r] lo fq asks _ 2 rfl Nn.out HD.out HP.out (by simp;omega) Qk).mono ?_;rintro e w4 ⟨v',vv,rfl,O2,Ps,OM,QE⟩;obtain⟨r',hr'⟩:∃r',(kB eu [r] ⟨eu++[x,y],lo++[fq],asks⟩ lo fq)=r':=⟨_,rfl⟩;rw [hr']at O2 OM⊢;have OU:=V hr';obtain⟨Su,Sv,rfl,-,-⟩:=OM.slice;have Pt:=V (HX.out.keeps Ps.1 (Nn.out.not HX.out (by omega) (by decide)));have QZ:=V O2;have Sf:=V Ps;have Q7:=V OM;have SU:=V QE;clear O2 Ps OM QE hr';simp only [lq];obtain⟨⟨x0,x1,x2,x3⟩,z0,z1,z2,z3⟩:=Pt.out.four;go_wp2_with fail;refine aF (eH rfl _ _ rfl (ji Pt.out rfl r'.1.kind r'.1.lH r'.1.fn (.slice Su r'.1.eu.length Sv))) rfl ?_;rw [HWR.out,OU.out];exact gq.pass HB.out HX.out (by omega) (by omega) Nn.out QZ.out Sf.out Q7.out SU.out _ _ _ rfl rfl rfl
  ·have f1:=fB q
   have HWR:=V (show sc eu r tr ⟨eu++[x,y],lo++[fq],asks⟩ lo fq=(.DV tr,⟨eu++[x,y],lo++[fq],asks⟩)by unfold sc;rw [if_neg q]);clear q;go_wp2_with fail;refine(Hx _ tr).mono ?_;rintro e w3 ⟨rfl,hb⟩;replace HX:=V (HX.out.below hb HX.out.lt);replace HI:=V (HI.out.below hb HI.out.lt);replace HB:=V (HB.out.trans (hb.mono HB.out.size));replace Nn:=V (Nn.out.below hb);replace HD:=V (HD.out.below hb);clear hb;obtain⟨⟨x0,x1,x2,x3⟩,z0,z1,z2,z3⟩:=HX.out.four;go_wp2_with fail;refine aF (eH rfl _ _ rfl (ji HX.out rfl 4 tr 0 (.slice none 0 0))) rfl ?_;rw [HWR.out];exact gq.pass HB.out HX.out (by omega) (by omega) Nn.out Nn.out (kt.refl _ _ _) (ei.nil _ _) (fun g hg=>by simp [eO,Value.ownBlock]at hg) 4 tr 0 rfl rfl rfl
def ML (I:Nat) (a:Int) (w:World):Prop:=w.cell? ⟨I,0,none⟩=some (.int .i64 32)/\w.cell? ⟨I,1,none⟩=some (.int .i64 a)
theorem J8 (w:World) (D X b g J cap:Nat) (pre post:List Value) (t:TypeId) (uv:Value) (us:List (Value × Value)) (u:Value × Value) (eu:List fi) (lo:List fg) (f:fg) (asks:Int) (k:Nat) (x:fi) (bb:Int) (al:Option Addr) (nl cl:Nat)
  (NH:fV w b pre post t ⟨uv, .slice (some ⟨g,0,none⟩) (lo.length+1) cap,us++[u]⟩ ⟨eu,lo++[f],asks⟩) (hd:kx w D X b pre.length g (lo.length*5) J) (hn:eu.length <=50000) (Qk: -1 <=f.pc/\f.pc <=1000000) (hx:f.locals[k]?=some x):
  Calls prog 58 #[.pointer (some ⟨D,0,none⟩), .agg #[.int .i64 32, .int .i64 (k:Int), .int .i64 bb, .slice al nl cl]] w (gq b pre post t ⟨uv, .slice (some ⟨g,0,none⟩) (lo.length+1) cap,us++[u]⟩ (kB eu [x] ⟨eu,lo++[f],asks⟩ lo f) w):=by
 have Nx:=(an w.heap.size w).alloc (ag _) (.cells #[.int .i64 32, .int .i64 (k:Int), .int .i64 bb, .slice al nl cl] 39);have No:=Nx.alloc Nx.size (.cells #[.int .i64 0, .int .i64 0, .int .i64 0, .slice none 0 0] 49);have Qm:=(eS.new w #[.int .i64 32, .int .i64 (k:Int), .int .i64 bb, .slice al nl cl] 39).alloc (.cells #[.int .i64 0, .int .i64 0, .int .i64 0, .slice none 0 0] 49);have Pd:=eS.new (w.alloc (.cells #[.int .i64 32, .int .i64 (k:Int), .int .i64 bb, .slice al nl cl] 39)) #[.int .i64 0, .int .i64 0, .int .i64 0, .slice none 0 0] 49;rw [aC]at Pd;have N2:=NH.jE.lt;have HI:=V Qm;have HX:=V Pd;have HB:=V No;have Nn:=V (NH.below No);have HD:=V (hd.below No);clear Nx No Qm Pd NH hd;have HXL:=V hx;have N8:=(aG.1 hx).1;clear hx;go_enter func58,ntmps58;go_wp2_with fail;have hS:ML w.heap.size (k:Int) _:=⟨HI.out.drew.cell 0,HI.out.drew.cell 1⟩;refine eB (ML w.heap.size (k:Int)) (up 0 4 ((8,true)::(9,true)::(4,false)::(5,true)::(6,true)::(7,false)::(10,true)::(11,false)::(12,false)::(13,false)::(14,false)::[])) (by kernel_rfl) (by kernel_rfl) hS ?_;replace HI:=V HI.out.drew;replace HX:=V HX.out.drew;replace HB:=V HB.out.drew;replace Nn:=V Nn.out.drew;replace HD:=V HD.out.drew;clear hS;obtain⟨w2,PE⟩:∃w2,w2=((w.alloc (.cells #[.int .i64 32, .int .i64 k, .int .i64 bb, .slice al nl cl] 39)).alloc (.cells #[.int .i64 0, .int .i64 0, .int .i64 0, .slice none 0 0] 49)).drew:=⟨_,rfl⟩;rw [<- PE]at HI HX HB Nn HD⊢;clear PE;have HSI:=V (show∀w',eS w' w.heap.size #[.int .i64 32, .int .i64 (k:Int), .int .i64 bb, .slice al nl cl] 39 ->ML w.heap.size (k:Int) w' from fun w' h=>⟨h.cell 0,h.cell 1⟩);iterate 6 (first | (apply sk rfl rfl;simp only [pt]) | (apply eo rfl rfl rfl;·(rintro w' ⟨t0,t1⟩;go_wp2;exact⟨rfl,rfl,rfl⟩)))
 obtain⟨⟨-,-,p2,-,-⟩,Nm,-,-,-,-,-⟩:=Nn.out.cells;obtain⟨bl,offl,Qf,hu1,-,hcapm,RU,hlc⟩:=eA.at (Nm.1.fT fK) HXL.out;rw [hu1]at p2;have y0:=hlc 0 _ rfl;have y1:=hlc 1 _ rfl;rw [aJ]at y0;have d2:=HD.out.d2;clear hlc Nm RU;refine ew rfl rfl ?_;go_wp2_with fail;refine⟨HSI.out _ HI.out,?_⟩;iterate 2 (first | (apply sk rfl rfl;simp only [pt]) | (apply eo rfl rfl rfl;·(rintro w' ⟨t0,t1⟩;go_wp2;exact⟨rfl,rfl,rfl⟩)))
 refine ew rfl rfl ?_;go_wp2_with fail;refine⟨HSI.out _ HI.out,?_⟩;iterate 1 (first | (apply sk rfl rfl;simp only [pt]) | (apply eo rfl rfl rfl;·(rintro w' ⟨t0,t1⟩;go_wp2;exact⟨rfl,rfl,rfl⟩)))
 refine ew rfl rfl ?_;go_wp2_with fail;refine⟨HSI.out _ HI.out,?_⟩;clear d2 p2 y0 y1;refine ew rfl rfl ?_;go_wp2_with fail;have hb:=(an w2.heap.size w2).alloc (ag _) (.cells #[.int .i64 x.kind, .int .i64 x.n] 52);have HP:=V (zf w2 x.kind x.n);replace HI:=V (HI.out.below hb HI.out.lt);replace HX:=V (HX.out.below hb HX.out.lt);replace HB:=V (HB.out.trans (hb.mono HB.out.size));replace Nn:=V (Nn.out.below hb);replace HD:=V (HD.out.below hb);clear hb;refine⟨HSI.out _ HI.out,?_⟩;refine ew rfl rfl ?_;go_wp2_with fail;refine(sK _ D X b g J cap pre post t uv us u eu [] [x] lo f asks _ 0 rfl (by rw [bR];exact Nn.out) HD.out HP.out (by simp;omega) Qk).mono ?_;rw [bR];rintro e w4 ⟨v',vv,rfl,O2,Ps,OM,QE⟩;obtain⟨r,hr⟩:∃r,(kB eu [x] ⟨eu,lo++[f],asks⟩ lo f)=r:=⟨_,rfl⟩;rw [hr]at O2 OM⊢;have OU:=V hr;obtain⟨Su,Sv,rfl,-,-⟩:=OM.slice;have Pt:=V (HX.out.keeps Ps.1 (Nn.out.not HX.out (by omega) (by decide)));have HI4:=V (HI.out.keeps Ps.1 (Nn.out.not HI.out (by omega) (by decide)));have QZ:=V O2;have Sf:=V Ps;have Q7:=V OM;have SU:=V QE;clear O2 Ps OM QE hr;simp only [lq];go_wp2_with fail;refine⟨HSI.out _ HI4.out,?_⟩;refine ew rfl rfl ?_;obtain⟨⟨x0,x1,x2,x3⟩,z0,z1,z2,z3⟩:=Pt.out.four;go_wp2_with fail;refine⟨HSI.out _ (HI4.out.keeps (gI w4 (w.heap.size+1) r.1.kind r.1.lH r.1.fn (.slice Su r.1.eu.length Sv)) (by omega)),?_⟩;refine eW ?_;refine aA ?_;go_wp2_with fail;refine aF (eH rfl _ _ rfl (ji Pt.out rfl r.1.kind r.1.lH r.1.fn (.slice Su r.1.eu.length Sv))) rfl ?_;rw [OU.out];exact gq.pass HB.out HX.out (by omega) (by omega) Nn.out QZ.out Sf.out Q7.out SU.out _ _ _ rfl rfl rfl
def lO (op:Int):Prop:=¬ (op=0\/op=1\/op=2\/op=3\/op=4\/op=5\/op=11\/op=26\/op=27\/op=32\/op=33\/op=34\/op=35\/op=36\/op=65\/op=66)
theorem K5 (w:World) (D b g cap:Nat) (pre post:List Value) (t:TypeId) (uv:Value) (us:List (Value × Value)) (u:Value × Value) (eu:List fi) (lo:List fg) (f:fg) (asks:Int) (op a:Int) (r0:gz × fP) (bb:Int) (al:Option Addr) (nl cl:Nat)
  (NH:fV w b pre post t ⟨uv, .slice (some ⟨g,0,none⟩) (lo.length+1) cap,us++[u]⟩ ⟨eu,lo++[f],asks⟩) (Pc:lO op)
  (hwork:∀w',Below w.heap.size w w' ->Calls prog 97 #[.pointer (some ⟨D,0,none⟩), .agg #[.int .i64 op, .int .i64 a, .int .i64 bb, .slice al nl cl]] w' (gq b pre post t ⟨uv, .slice (some ⟨g,0,none⟩) (lo.length+1) cap,us++[u]⟩ r0 w')):
  Calls prog 58 #[.pointer (some ⟨D,0,none⟩), .agg #[.int .i64 op, .int .i64 a, .int .i64 bb, .slice al nl cl]] w (gq b pre post t ⟨uv, .slice (some ⟨g,0,none⟩) (lo.length+1) cap,us++[u]⟩ r0 w):=by
 have f0:(op==0)=false:=eh (by unfold lO at Pc;omega);have f1:(op==1)=false:=eh (by unfold lO at Pc;omega);have f2:(op==2)=false:=eh (by unfold lO at Pc;omega);have f3:(op==3)=false:=eh (by unfold lO at Pc;omega);have f4:(op==4)=false:=eh (by unfold lO at Pc;omega);have f5:(op==5)=false:=eh (by unfold lO at Pc;omega);have f11:(op==11)=false:=eh (by unfold lO at Pc;omega);have f26:(op==26)=false:=eh (by unfold lO at Pc;omega);have f27:(op==27)=false:=eh (by unfold lO at Pc;omega);have f32:(op==32)=false:=eh (by unfold lO at Pc;omega);have f33:(op==33)=false:=eh (by unfold lO at Pc;omega);have f34:(op==34)=false:=eh (by unfold lO at Pc;omega);have f35:(op==35)=false:=eh (by unfold lO at Pc;omega);have f36:(op==36)=false:=eh (by unfold lO at Pc;omega);have f65:(op==65)=false:=eh (by unfold lO at Pc;omega);have f66:(op==66)=false:=eh (by unfold lO at Pc;omega);have HWK:=V hwork;clear Pc hwork;have Nx:=(an w.heap.size w).alloc (ag _) (.cells #[.int .i64 op, .int .i64 a, .int .i64 bb, .slice al nl cl] 39);have No:=Nx.alloc Nx.size (.cells #[.int .i64 0, .int .i64 0, .int .i64 0, .slice none 0 0] 49);have Qm:=(eS.new w #[.int .i64 op, .int .i64 a, .int .i64 bb, .slice al nl cl] 39).alloc (.cells #[.int .i64 0, .int .i64 0, .int .i64 0, .slice none 0 0] 49);have Pd:=eS.new (w.alloc (.cells #[.int .i64 op, .int .i64 a, .int .i64 bb, .slice al nl cl] 39)) #[.int .i64 0, .int .i64 0, .int .i64 0, .slice none 0 0] 49;rw [aC]at Pd;have N2:=NH.jE.lt;have HI:=V Qm;have HX:=V Pd;have HB:=V No;have Nn:=V (NH.below No);clear Nx No Qm Pd NH;have y0:=HI.out.cell 0;have y1:=HI.out.cell 1;have y2:=HI.out.cell 2;have y3:=HI.out.cell 3;simp only [aM,aK,aT]at y0 y1 y2 y3;go_enter func58,ntmps58;go_wp2_with fail;refine(HWK.out _ HB.out).mono ?_;clear y0 y1 y2 y3;obtain⟨w2,PE⟩:∃w2,w2=(w.alloc (.cells #[.int .i64 op, .int .i64 a, .int .i64 bb, .slice al nl cl] 39)).alloc (.cells #[.int .i64 0, .int .i64 0, .int .i64 0, .slice none 0 0] 49):=⟨_,rfl⟩;rw [<- PE]at HX HB Nn⊢;clear PE HI;rintro e w4 ⟨v',vv,rfl,O2,Ps,OM,QE⟩;obtain⟨Su,Sv,rfl,-,-⟩:=OM.slice;have Pt:=V (HX.out.keeps Ps.1 (Nn.out.not HX.out (by omega) (by decide)));have QZ:=V O2;have Sf:=V Ps;have Q7:=V OM;have SU:=V QE;clear O2 Ps OM QE;simp only [lq];obtain⟨⟨x0,x1,x2,x3⟩,z0,z1,z2,z3⟩:=Pt.out.four;go_wp2_with fail;refine aF (eH rfl _ _ rfl (ji Pt.out rfl r0.1.kind r0.1.lH r0.1.fn (.slice Su r0.1.eu.length Sv))) rfl ?_;exact gq.pass HB.out HX.out (by omega) (by omega) Nn.out QZ.out Sf.out Q7.out SU.out _ _ _ rfl rfl rfl
section
def Exit.one (P:Program) (l0:Nat) (r0:Code) (Q:Exit ->Act ->World ->Prop):Exit ->Act ->World ->Prop
 | .goto l,a,w=>l=l0/\r0.wp P (Exit.noGoto Q) a w
 | e,a,w=>Q e a w
def Exit.two (P:Program) (l0:Nat) (r0:Code) (l1:Nat) (r1:Code) (Q:Exit ->Act ->World ->Prop):Exit ->Act ->World ->Prop
 | .goto l,a,w=>(l=l0/\r0.wp P (Exit.noGoto Q) a w)\/(l=l1/\r1.wp P (Exit.one P l0 r0 Q) a w)
 | e,a,w=>Q e a w
theorem zi {P:Program} {a:Act} {w:World} {Q:Exit ->Act ->World ->Prop} {c r0 r1:Code} (l0 l1:Nat) (h0:findLabel c l0=some r0) (h1:findLabel c l1=some r1)
  (h:c.wp P (Exit.two P l0 r0 l1 r1 Q) a w):(Code.scope c).wp P Q a w:=by
 intro b k cs;have hg0:gotoIn l0 (.inScope c::k)=some (.code r0:: .inScope c::k):=by simp [gotoIn,h0]
 have Rp:gotoIn l1 (.inScope c::k)=some (.code r1:: .inScope c::k):=by simp [gotoIn,h1]
 have key0:∀a w,r0.wp P (Exit.noGoto Q) a w ->∃e a' w',Q e a' w'/\Arrives P (lone (b.at a (.code r0:: .inScope c::k)) cs w) b k cs e a' w':=by
  intro a w hr;obtain⟨e,a₁,w₁,hq,O7⟩:=hr b (.inScope c::k) cs;cases e with
  | normal=>exact⟨.normal,a₁,w₁,hq,Steps.trans O7 (.one step_inScope)⟩
  | exit id=>exact⟨.exit id,a₁,w₁,hq,fun k' hk=>O7 k' (by simp [exitTo,hk])⟩
  | goto l'=>exact hq.elim
  | ret=>exact⟨_,a₁,w₁,hq,O7⟩
  | panic ch=>exact⟨_,a₁,w₁,hq,O7⟩
  | outgrown=>exact⟨_,a₁,w₁,hq,O7⟩
 have key1:∀a w,r1.wp P (Exit.one P l0 r0 Q) a w ->∃e a' w',Q e a' w'/\Arrives P (lone (b.at a (.code r1:: .inScope c::k)) cs w) b k cs e a' w':=by
  intro a w hr;obtain⟨e,a₁,w₁,hq,O7⟩:=hr b (.inScope c::k) cs;cases e with
  | normal=>exact⟨.normal,a₁,w₁,hq,Steps.trans O7 (.one step_inScope)⟩
  | exit id=>exact⟨.exit id,a₁,w₁,hq,fun k' hk=>O7 k' (by simp [exitTo,hk])⟩
  | goto l'=>
   obtain⟨rfl,hr0⟩:=hq;obtain⟨e₂,a₂,w₂,hq₂,SV⟩:=key0 a₁ w₁ hr0;exact⟨e₂,a₂,w₂,hq₂, .of_steps (O7 _ hg0) SV⟩
  | ret=>exact⟨_,a₁,w₁,hq,O7⟩
  | panic ch=>exact⟨_,a₁,w₁,hq,O7⟩
  | outgrown=>exact⟨_,a₁,w₁,hq,O7⟩
 obtain⟨e,a₁,w₁,hq,O7⟩:=h b (.inScope c::k) cs;cases e with
 | normal=>exact⟨.normal,a₁,w₁,hq, .head ed (Steps.trans O7 (.one step_inScope))⟩
 | exit id=>exact⟨.exit id,a₁,w₁,hq,fun k' hk=> .head ed (O7 k' (by simp [exitTo,hk]))⟩
 | goto l'=>
  rcases hq with⟨rfl,hr⟩ | ⟨rfl,hr⟩
  ·obtain⟨e₂,a₂,w₂,hq₂,SV⟩:=key0 a₁ w₁ hr
   exact⟨e₂,a₂,w₂,hq₂, .of_steps (.head ed (O7 _ hg0)) SV⟩
  ·obtain⟨e₂,a₂,w₂,hq₂,SV⟩:=key1 a₁ w₁ hr
   exact⟨e₂,a₂,w₂,hq₂, .of_steps (.head ed (O7 _ Rp)) SV⟩
 | ret=>exact⟨_,a₁,w₁,hq, .of_steps (.one ed) O7⟩
 | panic ch=>exact⟨_,a₁,w₁,hq, .of_steps (.one ed) O7⟩
 | outgrown=>exact⟨_,a₁,w₁,hq, .of_steps (.one ed) O7⟩
section
variable {P:Program} {a:Act} {w:World} {Q:Exit ->Act ->World ->Prop} {l0 l1:Nat} {r0 r1:Code}
theorem E7 (h:r0.wp P (Exit.noGoto Q) a w):Exit.two P l0 r0 l1 r1 Q (.goto l0) a w:= .inl ⟨rfl,h⟩
theorem FA (h:r1.wp P (Exit.one P l0 r0 Q) a w):Exit.two P l0 r0 l1 r1 Q (.goto l1) a w:= .inr ⟨rfl,h⟩
theorem D4:Exit.two P l0 r0 l1 r1 Q .ret a w=Q .ret a w:=rfl
theorem Jx:Exit.one P l0 r0 Q .ret a w=Q .ret a w:=rfl
end
end
theorem ET {w:World} {D X b o g k:Nat} {j:Nat} (h:eS w D #[.pointer (some ⟨X,0,none⟩), .pointer (some ⟨b,o,none⟩), .pointer (some ⟨g,k,none⟩), .map none] 133):kx (w.setCell ⟨D,3,none⟩ (.map (some j))) D X b o g k j:=by
 have:=h.set 3 (.map (some j));simpa [kx,Ee] using this
def G5 (Do:Nat ->(Nat ->Array Value) ->Prop) (c:ij) (pc labs:Nat):Prop:=
 (c.body.length <=pc/\Do 60 (fun D=>#[.pointer (some ⟨D,0,none⟩)]))\/∃x,c.body[pc]?=some x/\
  ((¬ (x.op=15\/x.op=12\/x.op=13\/x.op=14\/x.op=16\/x.op=17)/\∀al cl,Do 58 (fun D=>#[.pointer (some ⟨D,0,none⟩), .agg #[.int .i64 x.op, .int .i64 x.a, .int .i64 x.b, .slice al x.l.length cl]]))\/
  (x.op=12/\∃n:Nat,x.a=n/\n < labs/\Do 59 (fun D=>#[.pointer (some ⟨D,0,none⟩), .int .i64 ((labs:Int) - 1 - (n:Int))]))\/
  (x.op=16/\Do 56 (fun D=>#[.pointer (some ⟨D,0,none⟩), .int .i64 x.a, .int .i64 0])))
theorem uU (w:World) (FX:Nat ->Bool) (X b g cap:Nat) (iv:lg) (m:eI) (pre post:List Value) (t:TypeId) (uv:Value) (us:List (Value × Value)) (u:Value × Value) (eu:List fi) (lo:List fg) (fq:fg) (asks:Int) (k:Nat) (c:ij) (pc:Nat) (r:gz × fP)
  (NH:fV w b pre post t ⟨uv, .slice (some ⟨g,0,none⟩) (lo.length+1) cap,us++[u]⟩ ⟨eu,lo++[fq],asks⟩) (N6:iM w FX X iv m) (hc:m.eF[k]?=some c) (hf:fq.fn=((m.imports.length+k:Nat):Int)) (OT:m.imports.length+k <=100000) (HFX:Hid (∀i,FX i=true ->i < w.heap.size)) (Qk:fq.pc=(pc:Int))
  (QB:G5 (fun Nq args=>∀(w':World) (D J:Nat),fV w' b pre post t ⟨uv, .slice (some ⟨g,0,none⟩) (lo.length+1) cap,us++[u]⟩ ⟨eu,lo++[fq],asks⟩ ->kx w' D X b pre.length g (lo.length*5) J ->iM w' FX X iv m ->gr w' J (o8 c) ->
   Calls prog Nq (args D) w' (gq b pre post t ⟨uv, .slice (some ⟨g,0,none⟩) (lo.length+1) cap,us++[u]⟩ r w')) c pc fq.labels.length):
  Calls prog 28 #[.pointer (some ⟨X,0,none⟩), .pointer (some ⟨b,pre.length,none⟩)] w (gq b pre post t ⟨uv, .slice (some ⟨g,0,none⟩) (lo.length+1) cap,us++[u]⟩ r w):=by
 have HCS:=V QB;have HPC:=V Qk;have HF:=V hf;clear QB Qk hf;have NG:=(an w.heap.size w).alloc (ag _) (.cells #[.int .i64 0, .int .i64 0, .int .i64 0, .slice none 0 0] 49);have HX:=V (eS.new w #[.int .i64 0, .int .i64 0, .int .i64 0, .slice none 0 0] 49).drew;have HB:=V NG.drew;have Nn:=V (NH.below NG.drew);have NF:=V (N6.below NG.drew);have HC:=V hc;have N2:=NH.jE.lt;obtain⟨-,-,-,-,-,NX,OS⟩:=NH.cells;have hS:World.cell? _ ⟨b,pre.length+1,none⟩=some (.slice (some ⟨g,0,none⟩) (lo.length+1) cap):=Nn.out.c1;clear NG NH N6 hc;go_enter func28,ntmps28;go_wp2_with fail;refine zi 0 1 rfl rfl ?_;go_wp2_with fail;refine eB (fun w'=>w'.cell? ⟨b,pre.length+1,none⟩=some (.slice (some ⟨g,0,none⟩) (lo.length+1) cap)) (up 0 14 ((14,false)::(15,true)::[])) (by kernel_rfl) (by kernel_rfl) hS ?_;clear hS;generalize(w.alloc (.cells #[.int .i64 0, .int .i64 0, .int .i64 0, .slice none 0 0] 49)).drew=w1 at HX HB Nn NF⊢;iterate 14 (first | (apply sk rfl rfl;simp only [pt]) | (apply eo rfl rfl rfl;·(rintro w' t0;go_wp2;exact⟨rfl,rfl,rfl⟩)))
 refine ew rfl rfl ?_;go_wp2_with fail;have hb:=(an w1.heap.size w1).alloc (ag _) (.cells #[.pointer (some ⟨X,0,none⟩), .pointer (some ⟨b,pre.length,none⟩), .pointer (some ⟨g,lo.length*5,none⟩), .map none] 133);have Tp:=V (eS.new w1 #[.pointer (some ⟨X,0,none⟩), .pointer (some ⟨b,pre.length,none⟩), .pointer (some ⟨g,lo.length*5,none⟩), .map none] 133);have Sm:=HB.out.size;have hxl:=HX.out.lt;replace HX:=V (HX.out.below hb HX.out.lt);replace HB:=V (HB.out.trans (hb.mono HB.out.size));replace Nn:=V (Nn.out.below hb);replace NF:=V (NF.out.below hb);clear hb;obtain⟨D,hD⟩:∃D,D=w1.heap.size:=⟨_,rfl⟩;have hDw:w.heap.size < D:=by omega
 rw [<- hD]at Tp⊢;clear hD Sm hxl;generalize w1.alloc (.cells #[.pointer (some ⟨X,0,none⟩), .pointer (some ⟨b,pre.length,none⟩), .pointer (some ⟨g,lo.length*5,none⟩), .map none] 133)=w2 at HX HB Nn NF Tp⊢;refine⟨Nn.out.c1,?_⟩;iterate 1 (first | (apply sk rfl rfl;simp only [pt]) | (apply eo rfl rfl rfl;·(rintro w' t0;go_wp2;exact⟨rfl,rfl,rfl⟩)))
 refine eW ?_;refine aA ?_;obtain⟨⟨p0,p1,-,-,-⟩,-,-,-,-,-,-⟩:=Nn.out.cells;have d2:w2.cell? ⟨D,2,none⟩=some (.pointer (some ⟨g,lo.length*5,none⟩)):=Tp.out.cell 2;go_wp2_with fail;refine(BX w2 FX X iv m NF.out k c HC.out _ HF.out OT).mono ?_;rintro e w3 ⟨body,J,rfl,PD,hJ,hb⟩;clear p0 p1 d2;replace HX:=V (HX.out.below hb HX.out.lt);replace HB:=V (HB.out.trans (hb.mono HB.out.size));replace Nn:=V (Nn.out.below hb);replace NF:=V (NF.out.below hb);replace Tp:=V (Tp.out.below hb Tp.out.lt);have Ss:=V PD;have HJ:=V hJ;obtain⟨ab,cb,RG,-,hcbm⟩:=eD.slice PD;subst RG;clear hb PD hJ;have d3:w3.cell? ⟨D,3,none⟩=some (.map none):=Tp.out.cell 3;have z3:=Tp.out.free 3;have d2:(w3.setCell ⟨D,3,none⟩ (.map (some J))).cell? ⟨D,2,none⟩=some (.pointer (some ⟨g,lo.length*5,none⟩)):=(Tp.out.set 3 (.map (some J))).cell 2;have Np:=eE w3 D 3 (.map (some J));have hDn:¬ (⟨uv, .slice (some ⟨g,0,none⟩) (lo.length+1) cap,us++[u]⟩:qC).own b D:=Nn.out.not Tp.out (by omega) (by decide);have hDF:FX D=false:=by
  cases hh:FX D with
  | false=>rfl
  | true=>exact absurd (HFX.out D hh) (by omega)
 have Ny:=V (HX.out.keeps Np (by omega));have OB:=V (Nn.out.keeps Np (fun i hi e=>hDn (e▸hi)));have Pj:=V (NF.out.keeps Np (fun i hi=>by rw [hi];exact hDF));have HBD2:=V (eD.ext Ss.out (wu Np (fun i hi=>by rw [hi];exact hDF)) (fun _ _ h=>h.ext (wu Np (fun i hi=>by rw [hi];exact hDF))));have NQ:=V (HB.out.trans (Np.below HB.out.size (fun i hi=>by omega)));have QO:=V (ET (j:=J) Tp.out);have HJ2:=V (Pj.out.maps k J c HJ.out HC.out).1;clear Np hDn hDF HX Nn NF Ss HB Tp HJ;have OG:=(an _ (w3.setCell ⟨D,3,none⟩ (.map (some J)))).alloc (ag _) (.cells #[.int .i64 15, .int .i64 0, .int .i64 0, .slice none 0 0] 39);have PW:(w3.setCell ⟨D,3,none⟩ (.map (some J))).heap.size=w3.heap.size:=by simp
 have Pt:=V (Ny.out.below OG Ny.out.lt);have SW:=V (OB.out.below OG);have HIN4:=V (Pj.out.below OG);have HBD4:=V (eD.ext HBD2.out (ka OG) (fun _ _ h=>h.ext (ka OG)));have HB4:=V (NQ.out.trans (OG.mono NQ.out.size));have HD4:=V (QO.out.below OG);have HJ4:=V (HJ2.out.below OG);have Qm:=eS.new (w3.setCell ⟨D,3,none⟩ (.map (some J))) #[.int .i64 15, .int .i64 0, .int .i64 0, .slice none 0 0] 39;rw [PW]at Qm;have HI4:=V Qm;have hw3:w.heap.size < w3.heap.size:=by have:=Ny.out.lt;omega
 clear OG PW Qm;have d2:=HD4.out.d2;obtain⟨⟨-,p1,-,-,-⟩,-,-,-,-,-,-⟩:=SW.out.cells;simp only [HPC.out]at p1;rcases HCS.out with⟨hx,hdo⟩ | ⟨x,hx,hdo⟩
 ·have HDO:=V hdo
  have f1:decide ((pc:Int) < (c.body.length:Int))=false:=aw (by omega);have f2:decide (pc < c.body.length)=false:=aw (by omega);clear hdo hx;go_wp2_with fail;have HX:=Pt;have Nn:=SW;have HB:=HB4;have Rm:=V (HDO.out _ D J SW.out HD4.out HIN4.out HJ4.out);clear Ny OB Pj HBD2 NQ QO HJ2 Pt SW HIN4 HBD4 HB4 HD4 HJ4 HI4 d2 p1 d3 z3 f1 f2;generalize(w3.setCell ⟨D,3,none⟩ (.map (some J))).alloc (.cells #[.int .i64 15, .int .i64 0, .int .i64 0, .slice none 0 0] 39)=w6 at HX Nn HB Rm⊢;refine wp_goto ?_;refine E7 ?_;go_wp2_with fail;refine Rm.out.mono ?_;rintro e w4 ⟨v',vv,rfl,O2,Ps,OM,QE⟩;obtain⟨Su,Sv,rfl,-,-⟩:=OM.slice;have Pt:=V (HX.out.keeps Ps.1 (Nn.out.not HX.out (by omega) (by decide)));have QZ:=V O2;have Sf:=V Ps;have Q7:=V OM;have SU:=V QE;clear O2 Ps OM QE;simp only [lq];obtain⟨⟨x0,x1,x2,x3⟩,z0,z1,z2,z3⟩:=Pt.out.four;go_wp2_with fail
  skip
  refine aF (eH rfl _ _ rfl (ji Pt.out rfl r.1.kind r.1.lH r.1.fn (.slice Su r.1.eu.length Sv))) rfl ?_;exact gq.pass HB.out HX.out (ag _) (by omega) Nn.out QZ.out Sf.out Q7.out SU.out _ _ _ rfl rfl rfl
 have TN:=V hx;have hpl:pc < c.body.length:=(aG.1 hx).1;obtain⟨bb,offb,capb,ub,RG,-,-,hbbl,NA,N6⟩:=eD.at HBD4.out hx;injection RG with e1 e2 e3;subst e1 e3;obtain⟨al,cl,hle,-,hclm⟩:=N6.1.sl;have y0:=(gm (NA 0 _ rfl)).2;have y1:=(gm (NA 1 _ rfl)).2;have y2:=(gm (NA 2 _ rfl)).2;have y3:=(gm (NA 3 _ rfl)).2;rw [aJ]at y0;rw [hle]at y3;simp only at y0 y1 y2 y3;clear NA N6 hle e2 hbbl hx;rcases hdo with⟨Pc,hdo⟩ | ⟨Pc,n,ha,hn,hdo⟩ | ⟨Pc,hdo⟩
 ·have HDO:=V (hdo al cl)
  have f15:(x.op==15)=false:=eh (by omega);have f12:(x.op==12)=false:=eh (by omega);have f13:(x.op==13)=false:=eh (by omega);have f14:(x.op==14)=false:=eh (by omega);have f16:(x.op==16)=false:=eh (by omega);have f17:(x.op==17)=false:=eh (by omega);clear hdo Pc;go_wp2_with fail;have N7:=(an _ (w3.setCell ⟨D,3,none⟩ (.map (some J)))).alloc (ag _) (.cells #[.int .i64 x.op, .int .i64 x.a, .int .i64 x.b, .slice al x.l.length cl] 39);have HX:=V (Ny.out.below N7 Ny.out.lt);have Nn:=V (OB.out.below N7);have HB:=V (NQ.out.trans (N7.mono NQ.out.size));have Rm:=V (HDO.out _ D J Nn.out (QO.out.below N7) (Pj.out.below N7) (HJ2.out.below N7));clear N7 Ny OB Pj HBD2 NQ QO HJ2 Pt SW HIN4 HBD4 HB4 HD4 HJ4 HI4 d2 p1 y0 y1 y2 y3 d3 z3 f15 f12 f13 f14 f16 f17;generalize(w3.setCell ⟨D,3,none⟩ (.map (some J))).alloc (.cells #[.int .i64 x.op, .int .i64 x.a, .int .i64 x.b, .slice al x.l.length cl] 39)=w6 at HX Nn HB Rm⊢;refine Rm.out.mono ?_;rintro e w4 ⟨v',vv,rfl,O2,Ps,OM,QE⟩;obtain⟨Su,Sv,rfl,-,-⟩:=OM.slice;have Pt:=V (HX.out.keeps Ps.1 (Nn.out.not HX.out (by omega) (by decide)));have QZ:=V O2;have Sf:=V Ps;have Q7:=V OM;have SU:=V QE;clear O2 Ps OM QE;simp only [lq];obtain⟨⟨x0,x1,x2,x3⟩,z0,z1,z2,z3⟩:=Pt.out.four;go_wp2_with fail;rw [D4];refine aF (eH rfl _ _ rfl (ji Pt.out rfl r.1.kind r.1.lH r.1.fn (.slice Su r.1.eu.length Sv))) rfl ?_;exact gq.pass HB.out HX.out (ag _) (by omega) Nn.out QZ.out Sf.out Q7.out SU.out _ _ _ rfl rfl rfl
 ·have HDO:=V hdo
  rw [Pc]at y0;rw [ha]at y1;clear hdo;obtain⟨ul,cl2,Qy,hlb1,hlb2⟩:=SW.out.cells.2.1.2.slice;go_wp2_with fail;refine wp_goto ?_;refine FA ?_;have N7:=(an _ (w3.setCell ⟨D,3,none⟩ (.map (some J)))).alloc (ag _) (.cells #[.int .i64 12, .int .i64 (n:Int), .int .i64 x.b, .slice al x.l.length cl] 39);have HX:=V (Ny.out.below N7 Ny.out.lt);have Nn:=V (OB.out.below N7);have HB:=V (NQ.out.trans (N7.mono NQ.out.size));have Rm:=V (HDO.out _ D J Nn.out (QO.out.below N7) (Pj.out.below N7) (HJ2.out.below N7));have d2:=(QO.out.below N7).d2;have p4:=Nn.out.cells.1.2.2.2.2;have f9:((n:Int)==(fq.labels.length:Int))=false:=eh (by omega);rw [Qy]at p4;clear N7 Ny OB Pj HBD2 NQ QO HJ2 Pt SW HIN4 HBD4 HB4 HD4 HJ4 HI4 p1 y0 y1 y2 y3 d3 z3 Qy;generalize(w3.setCell ⟨D,3,none⟩ (.map (some J))).alloc (.cells #[.int .i64 12, .int .i64 (n:Int), .int .i64 x.b, .slice al x.l.length cl] 39)=w6 at HX Nn HB Rm d2 p4⊢;go_wp2_with fail;clear d2 p4 f9;refine Rm.out.mono ?_;rintro e w4 ⟨v',vv,rfl,O2,Ps,OM,QE⟩;obtain⟨Su,Sv,rfl,-,-⟩:=OM.slice;have Pt:=V (HX.out.keeps Ps.1 (Nn.out.not HX.out (by omega) (by decide)));have QZ:=V O2;have Sf:=V Ps;have Q7:=V OM;have SU:=V QE;clear O2 Ps OM QE;simp only [lq];obtain⟨⟨x0,x1,x2,x3⟩,z0,z1,z2,z3⟩:=Pt.out.four;go_wp2_with fail;rw [Jx];refine aF (eH rfl _ _ rfl (ji Pt.out rfl r.1.kind r.1.lH r.1.fn (.slice Su r.1.eu.length Sv))) rfl ?_;exact gq.pass HB.out HX.out (ag _) (by omega) Nn.out QZ.out Sf.out Q7.out SU.out _ _ _ rfl rfl rfl
 ·have HDO:=V hdo
  rw [Pc]at y0;clear hdo;go_wp2_with fail;have N7:=(an _ (w3.setCell ⟨D,3,none⟩ (.map (some J)))).alloc (ag _) (.cells #[.int .i64 16, .int .i64 x.a, .int .i64 x.b, .slice al x.l.length cl] 39);have HX:=V (Ny.out.below N7 Ny.out.lt);have Nn:=V (OB.out.below N7);have HB:=V (NQ.out.trans (N7.mono NQ.out.size));have Rm:=V (HDO.out _ D J Nn.out (QO.out.below N7) (Pj.out.below N7) (HJ2.out.below N7));clear N7 Ny OB Pj HBD2 NQ QO HJ2 Pt SW HIN4 HBD4 HB4 HD4 HJ4 HI4 d2 p1 y0 y1 y2 y3 d3 z3;generalize(w3.setCell ⟨D,3,none⟩ (.map (some J))).alloc (.cells #[.int .i64 16, .int .i64 x.a, .int .i64 x.b, .slice al x.l.length cl] 39)=w6 at HX Nn HB Rm⊢;refine Rm.out.mono ?_;rintro e w4 ⟨v',vv,rfl,O2,Ps,OM,QE⟩;obtain⟨Su,Sv,rfl,-,-⟩:=OM.slice;have Pt:=V (HX.out.keeps Ps.1 (Nn.out.not HX.out (by omega) (by decide)));have QZ:=V O2;have Sf:=V Ps;have Q7:=V OM;have SU:=V QE;clear O2 Ps OM QE;simp only [lq];obtain⟨⟨x0,x1,x2,x3⟩,z0,z1,z2,z3⟩:=Pt.out.four;go_wp2_with fail;rw [D4];refine aF (eH rfl _ _ rfl (ji Pt.out rfl r.1.kind r.1.lH r.1.fn (.slice Su r.1.eu.length Sv))) rfl ?_;exact gq.pass HB.out HX.out (ag _) (by omega) Nn.out QZ.out Sf.out Q7.out SU.out _ _ _ rfl rfl rfl

section
theorem A4 {P:Program} {ops:Array Oper} {Q:Exit ->Act ->World ->Prop} {S:World ->Prop} {i:Nat} {rest:List (Nat × Bool)} {a:Act} {w:World} (hv:(ops[i]?.any fun o=>isVal o.op)=true) (hS:S w)
  (h:gE P ops.toList Q S ((i,true)::rest) a w):∃o v,ops[i]?=some o/\YieldsIf P ops S o v a/\gE P ops.toList Q S rest (a.put o.dst v) w:=by
 obtain⟨o,ho,h⟩:=h;rw [n4,cd]at ho;rw [ho]at hv;simp only [dO]at hv;rcases h with⟨hg,d',hd,hds,a',hp,hk⟩ | ⟨hg,hk⟩
 ·have key:∀w',S w' ->(execOp a.eval o).run P w'= .ok (.value (a'.tmps.getD d' undef)) w'/\a.put o.dst (a'.tmps.getD d' undef)=a':=by
   intro w' hw';rcases mf (hp w' hw')with h1 | ⟨_,h2⟩
   ·unfold Oper.wp at h1
    rw [iL]at h1;rcases lU (P:=P) (ρ:=a.eval) hv w' with⟨v,w2,Nz⟩ | ⟨x,w2,Nz⟩
    ·rw [Nz]at h1⊢
     obtain⟨_,h3,h4⟩:=h1;subst h4;subst h3;have:(bare o).dst=some d':=hd;rw [this,hd];simp [Act.put,hds]
    ·rw [Nz]at h1
     cases x <;>simp only [Oper.upon]at h1
     case panic=>exact absurd h1.1 (by simp)
   ·obtain⟨_,_,h3,_⟩:=h2
    exact absurd h3 (by simp)
  exact⟨o,_,ho, .inl ⟨by rw [lD];exact hg,fun w' hw'=>(key w' hw').1⟩,by rw [(key w hS).2];exact hk⟩
 ·exact⟨o,undef,ho, .inr ⟨by rw [lD];exact hg,rfl⟩,hk⟩
theorem tE {P:Program} {ops:Array Oper} {Q:Exit ->Act ->World ->Prop} {S:World ->Prop} {d i:Nat} {oi:Oper} {v:Value} (hi:ops[i]?=some oi) (hsel:∀(j:Nat) (o:Oper) cs b,ops[j]?=some o ->o.op≠ .select cs b)
  (hQ:∀c a w,¬ Q (.panic c) a w) (V:i≠d):
  ∀(fuel:Nat) (listed:Array Bool) (a:Act) (w:World),
   (∀j oj,ops[j]?=some oj ->j≠i ->listed.getD j true=false ->(∀e∈oj.after,Region.binds .any e=true ->e.on≠i) ->oi.apart ops oj=true) ->
   i∈Region.ready .any ops listed ->Yields P ops oi v a ->S w ->
   nE P ops Q S d fuel (listed.setIfInBounds i true) (a.put oi.dst v) w ->nE P ops Q S d (fuel+1) listed a w:=by
 intro fuel
 induction fuel with
 | zero=>
  intro listed a w _ hr hy hS H;refine⟨fun h=>(by rw [h]at hr;cases hr),fun j hj=>?_⟩;by_cases hji:j=i
  ·subst hji;exact hy.yieldsIf.wpOp hi hS ⟨fun h=>absurd h V,fun _=>⟨hS,H⟩⟩
  ·have:=ea hj hji
   rw [H.1]at this;cases this
 | succ fuel ih=>
  intro listed a w SC hr hy hS H;refine⟨fun h=>(by rw [h]at hr;cases hr),fun j hj=>?_⟩;by_cases hji:j=i
  ·subst hji;exact hy.yieldsIf.wpOp hi hS ⟨fun h=>absurd h V,fun _=>⟨hS,H⟩⟩
  ·have h1:=H.2 j (ea hj hji)
   obtain⟨RV,oj,hoj,N5⟩:=dK.1 hj;have hnot:∀e∈oj.after,Region.binds .any e=true ->e.on≠i:=fun e he hb heq=>by
    have h1:=N5 e he hb;have h0:=(dK.1 hr).1;rw [heq,o9 h0]at h1;cases h1
   have h2:=wpOp_put hoj (SC j oj hoj hji RV hnot) (fun cs b=>hsel i oi cs b hi) (fun cs b=>hsel j oj cs b hoj) (fun c a w h=>(hQ _ _ _ h).elim) hy h1;have hfree':∀k ok,ops[k]?=some ok ->k≠i ->(listed.setIfInBounds j true).getD k true=false ->
     (∀e∈ok.after,Region.binds .any e=true ->e.on≠i) ->oi.apart ops ok=true:=fun k ok hk hki hun OD=>by
    refine SC k ok hk hki ?_ OD;by_cases hjk:j=k
    ·subst hjk;exact RV
    ·rw [getD_set_ne true hjk]at hun;exact hun
   refine dV (fun a' w' h3=>⟨fun hd=>?_,fun hd=>⟨(h3.2.2 hd).1,ih (listed.setIfInBounds j true) a' w' hfree' (ea hr (Ne.symm hji)) h3.1 (h3.2.2 hd).1 ?_⟩⟩) h2
   ·refine wpAny_first hi hsel (fun c a w h=>(hQ _ _ _ h).elim) fuel (listed.setIfInBounds j true) a' w' hfree' (ea hr (Ne.symm hji)) h3.1 ?_
    rw [dW _ _ hji];exact h3.2.1 hd
   ·rw [dW _ _ hji]
    exact(h3.2.2 hd).2
def DQ (P:Program) (ops:List Oper) (Q:Exit ->Act ->World ->Prop) (d:Nat) (l2:List (Nat × Bool)):Exit ->Act ->World ->Prop
 | .normal,a,w=>∃o,nth ops d=some o/\
   ((kI ops o.guard a=true/\wpList P #[] (og Q (fun _=>True) (gE P ops Q (fun _=>True) l2)) [bare o] a w)\/(kI ops o.guard a=false/\gE P ops Q (fun _=>True) l2 (a.put o.dst undef) w))
 | e,a,w=>Q e a w
def FQ (P:Program) (ops:List Oper) (Q:Exit ->Act ->World ->Prop) (d:Nat) (lf l2:List (Nat × Bool)):Exit ->Act ->World ->Prop
 | .normal,a,w=>gE P ops (DQ P ops Q d l2) (fun _=>True) lf a w
 | e,a,w=>Q e a w
def vV (ops:Array Oper) (d:Nat) (l2:List (Nat × Bool)):List (Nat × Bool) ->Array Bool ->Bool
 | [],listed=>(Region.ready .any ops listed==[d])&&tA ops l2 (listed.setIfInBounds d true)
 | (i,b)::rest,listed=>b&& !(i==d)&&(ops[i]?.any fun o=>isVal o.op)&&(Region.ready .any ops listed).contains i&&Region.free .any ops listed i&&vV ops d l2 rest (listed.setIfInBounds i true)
section
variable {P:Program} {ops:Array Oper} {Q:Exit ->Act ->World ->Prop} {S:World ->Prop} {d:Nat}
theorem tU (hQ:∀c a w,¬ Q (.panic c) a w) (hs:Region.noSelect ops=true) (l2:List (Nat × Bool)):
  ∀(l:List (Nat × Bool)) (fuel:Nat) (listed:Array Bool) (a:Act) (w:World),l.length+1+l2.length <=fuel ->vV ops d l2 l listed=true ->S w ->
   gE P ops.toList (DQ P ops.toList Q d l2) (fun _=>True) l a w ->nE P ops Q S d fuel listed a w
 | l,0,_,_,_,hl,_,_,_=>by omega
 | [],fuel+1,listed,a,w,hlen,Nt,_,h=>by
  simp only [vV,bj,dv]at Nt;refine⟨fun h0=>(by rw [Nt.1]at h0;cases h0),fun j hj=>?_⟩;rw [Nt.1]at hj;obtain rfl:j=d:=by simpa using hj
  have h2:=kL (S:=fun _=>True) (K:=gE P ops.toList Q (fun _=>True) l2) (K':=wpAny P .any ops Q fuel (listed.setIfInBounds j true)) (Q:=Q) (ops:=ops) (j:=j) trivial (fun a w _ h=>wpAny_of_held _ _ _ _ (lX (S:=fun _=>True) hQ hs l2 fuel _ a w (by simp only [aH]at hlen;omega) Nt.2 trivial h)) h;exact dV (fun a' w' h3=>⟨fun _=>h3.2,fun h=>absurd rfl h⟩) h2
 | (i,b)::rest,fuel+1,listed,a,w,hl,Nt,hS,h=>by
  simp only [vV,bj,du,de]at Nt;obtain⟨⟨⟨⟨⟨rfl,V⟩,hv⟩,hr⟩,hf⟩,NW⟩:=Nt;simp only [aD]at hl;obtain⟨o,v,ho,hy,hk⟩:=A4 hv trivial h;exact tE ho (dy hs) hQ V fuel listed a w (dL ho hf) (by simpa using hr) (hy.imp (fun h=>⟨h.1,fun w=>h.2 w trivial⟩) id) hS (tU hQ hs l2 rest fuel _ _ _ (by omega) NW hS hk)
end
theorem F1 {P:Program} {ops:List Oper} {Q:Exit ->Act ->World ->Prop} {S:World ->Prop} {d:Nat} {a:Act} {w:World} {lf l2:List (Nat × Bool)} (h:gE P ops (DQ P ops Q d l2) (fun _=>True) lf a w):gE P ops (FQ P ops Q d lf l2) S [] a w:=h
theorem GY {P:Program} {ops:List Oper} {Q:Exit ->Act ->World ->Prop} {S:World ->Prop} {d:Nat} {a:Act} {w:World} {op:Op} {t:TypeId} {p:String} {af:Array Edge} {g:Option (Nat × Bool)} {dst:Option Tmp} {l2:List (Nat × Bool)}
  (hi:nth ops d=some ⟨dst,op,t,p,af,g⟩) (hg:kI ops g a=true) (h:wpList P #[] (og Q (fun _=>True) (gE P ops Q (fun _=>True) l2)) [⟨dst,op,t,p,#[],none⟩] a w):gE P ops (DQ P ops Q d l2) S [] a w:=
 ⟨_,hi, .inl ⟨hg,h⟩⟩
end

theorem Hz (g m cap k n:Nat) (h:k < n) (h2:n <=cap) (wx:World):
  (Instr.slice 47 (.slice (some ⟨g,0,none⟩) m cap) (some (.int .i64 k)) (some (.int .i64 n)) none).run prog wx= .ok (.slice (some ⟨g,k*2,none⟩) (n - k) (cap - k)) wx:=by
 have hu:prog.underlying 47=some (.slice 52):=by kernel_rfl
 obtain⟨i0,hi,Po,Oi,O1⟩:=bS jB;have h3:k <=n:=by omega
 have h4:¬ cap=k:=by omega
 simp [Instr.slice,aZ hu,Instr.sliceBounds,Instr.sliceBound,sizeOf,typeInfo,hi,Oi,asIntOf,h2,h3,h4,Addr.add];omega
theorem Ig {w:World} {B gv cv n:Nat} {l1 args:List fi} (h:ei 52 2 fR w B (.slice (some ⟨gv,0,none⟩) n cv) (l1++args)) (Oh:l1.length+args.length <=cv) (OS:cv <=maxLen):eA 2 fR w (.slice (some ⟨gv,l1.length*2,none⟩) args.length (cv - l1.length)) args:=by
 refine⟨_,_,rfl,by omega,by omega,fun i x hx=>⟨gv,_,rfl,?_,fun j u hu=>?_⟩⟩
 ·obtain⟨g,c,cur,e,-,hl,-⟩:=h.open (by intro e;rw [(dE.1 e).2]at hx;cases hx)
  injection e with e;injection e with e;injection e with e;rw [e];exact hl
 ·have:=ei.cell fK h (i:=l1.length+i) (x:=x) (by rw [bo (by omega)];rw [<- hx];congr 1;omega) hu
  rw [<- this]
  congr 2
  rw [cU]
section
structure iD (w:World) (F FX:Nat ->Bool) (X b:Nat) (iv:lg) (m:eI) (pre post:List Value) (t:TypeId) (s:fP):Prop where
 st:∃v,fV w b pre post t v s/\∀g,v.own b g ->F g=false
 inst:iM w FX X iv m
 sub:∀g,FX g=true ->F g=true
 lt:∀g,F g=true ->g < w.heap.size
def px (F FX:Nat ->Bool) (X b:Nat) (iv:lg) (m:eI) (pre post:List Value) (t:TypeId) (r:gz × fP) (w:World) (e:Ending) (w':World):Prop:=
 ∃vv,e= .returned (lq r.1 vv)/\iD w' F FX X b iv m pre post t r.2/\ei 52 2 fR w' w.heap.size vv r.1.eu/\ep (fun g=>F g=false) w w'
section
variable {w w':World} {F FX:Nat ->Bool} {X b:Nat} {iv:lg} {m:eI} {pre post:List Value} {t:TypeId} {s:fP}
theorem iD.keeps {P:Nat ->Prop} (h:iD w F FX X b iv m pre post t s) (hk:ep P w w') (hP:∀g,P g ->FX g=false/\(F g=true\/w.heap.size <=g)):iD w' F FX X b iv m pre post t s:=by
 obtain⟨v,h1,h2⟩:=h.st;refine⟨⟨v,h1.keeps hk (fun g hg hp=>?_),h2⟩,h.inst.keeps hk (fun g hg=>(hP g hg).1),h.sub,fun g hg=>bp (h.lt g hg) hk.size⟩;rcases(hP g hp).2 with h3 | h3
 ·rw [h2 g hg]at h3
  cases h3
 ·have:=h1.lt hg
  omega
theorem iD.below (h:iD w F FX X b iv m pre post t s) (hb:Below w.heap.size w w'):iD w' F FX X b iv m pre post t s:=h.keeps (P:=fun _=>False) (ep.et hb) (fun _ h=>h.elim)
theorem iD.add (h:iD w F FX X b iv m pre post t s) (hb:Below w.heap.size w w') (Y:Nat) (h1:w.heap.size <=Y) (h2:Y < w'.heap.size):iD w' (fun g=>F g || decide (g=Y)) FX X b iv m pre post t s:=by
 obtain⟨v,h3,h4⟩:=h.st;refine⟨⟨v,h3.below hb,fun g hg=>?_⟩,h.inst.below hb,fun g hg=>by simp [h.sub g hg],fun g hg=>?_⟩
 ·have:=h3.lt hg
  have Ox:g≠Y:=by omega
  simp [h4 g hg,Ox]
 ·simp only [dQ,cR]at hg
  rcases hg with hg | hg
  ·exact bp (h.lt g hg) hb.size
  ·omega
theorem iD.fx (h:iD w F FX X b iv m pre post t s) (g:Nat) (hg:F g=false):FX g=false:=by
 cases hf:FX g with
 | false=>rfl
 | true=>rw [h.sub g hf]at hg;cases hg
theorem iD.end {v:qC} {r:gz × fP} {e:Ending} (h2:∀g,v.own b g ->F g=false) (h:iD w F FX X b iv m pre post t s) (he:gq b pre post t v r w e w'):px F FX X b iv m pre post t r w e w':=by
 obtain⟨v',vv,rfl,h3,h4,h5,-⟩:=he;refine⟨vv,rfl,⟨⟨v',h3,fun g hg=>?_⟩,h.inst.keeps h4.1 (fun g hg=>h.fx g (h2 g hg)),h.sub,fun g hg=>bp (h.lt g hg) h4.1.size⟩,h5,h4.1.mono h2⟩;rcases h4.2 g hg with h6 | h6
 ·exact h2 g h6
 ·cases hf:F g with
  | false=>rfl
  | true=>
   have:=h.lt g hf;omega
theorem iD.c1 {eu:List fi} {lo:List fg} {fq:fg} {asks:Int} (h:iD w F FX X b iv m pre post t ⟨eu,lo++[fq],asks⟩):∃g cap,w.cell? ⟨b,pre.length+1,none⟩=some (.slice (some ⟨g,0,none⟩) (lo.length+1) cap)/\lo.length+1 <=cap/\cap <=9223372036854775807/\
  w.cell? ⟨g,lo.length*5,none⟩=some (.int .i64 fq.fn)/\w.cell? ⟨g,lo.length*5+1,none⟩=some (.int .i64 fq.pc):=by
 obtain⟨v,h1,-⟩:=h.st;obtain⟨us,u,g,cap,-,-,h2,h3,h4,-,h5,-⟩:=h1.top rfl;have h6:=h1.c1;rw [h2]at h6;exact⟨g,cap,h6,h3,h4,h5.1,h5.2.1⟩
theorem iD.Ni {eu:List fi} {asks:Int} (h:iD w F FX X b iv m pre post t ⟨eu,[],asks⟩):∃a cap,w.cell? ⟨b,pre.length+1,none⟩=some (.slice a 0 cap):=by
 obtain⟨v,h1,-⟩:=h.st;have h6:=h1.c1;obtain⟨a,cap,h2,-⟩:=h1.ez.slice;have hl:(([]:List fg).zip v.us).length=0:=by simp
 rw [h2]at h6;exact⟨a,cap,by rw [h6];simp⟩
theorem iD.c2 (h:iD w F FX X b iv m pre post t s):w.cell? ⟨b,pre.length+2,none⟩=some (.int .i64 s.asks):=by
 obtain⟨v,h1,-⟩:=h.st;exact h1.c2
theorem iD.shape {eu:List fi} {lo:List fg} {fq:fg} {asks:Int} (h:iD w F FX X b iv m pre post t ⟨eu,lo++[fq],asks⟩):
  ∃uv g cap us u,fV w b pre post t ⟨uv, .slice (some ⟨g,0,none⟩) (lo.length+1) cap,us++[u]⟩ ⟨eu,lo++[fq],asks⟩/\∀g',qC.own ⟨uv, .slice (some ⟨g,0,none⟩) (lo.length+1) cap,us++[u]⟩ b g' ->F g'=false:=by
 obtain⟨⟨uv,uf,Oy⟩,h1,h2⟩:=h.st;obtain⟨us,u,g,cap,e1,-,e2,-⟩:=h1.top rfl;simp only at e1 e2;subst e1 e2;exact⟨uv,g,cap,us,u,h1,h2⟩
end
theorem iD.call (w:World) (F FX:Nat ->Bool) (X b:Nat) (iv:lg) (m:eI) (pre post:List Value) (t:TypeId) (s:fP) (h:iD w F FX X b iv m pre post t s) (k:Nat) (c:ij) (ty:gC) (fn:Int) (args:List fi) (va:Value)
  (hc:m.eF[k]?=some c) (hf:fn=((m.imports.length+k:Nat):Int)) (PJ:kq m fn ty) (hk:m.imports.length+m.funcs.length <=100000) (OT:k <=100000) (hl:ty.params.length+c.locals.length <=100000)
  (ha:eA 2 fR w va args) (O4:args.length <=(ty.params++c.locals).length) (hn:s.eu.length <=50000) (Nm:s.ez.length <=50000):
  Calls prog 24 #[.pointer (some ⟨X,0,none⟩), .pointer (some ⟨b,pre.length,none⟩), .int .i64 fn,va] w (px F FX X b iv m pre post t (mO (ty.params++c.locals) s fn args) w):=by
 obtain⟨v,h1,h2⟩:=h.st;exact(FR w FX X b iv m pre post t v s k c ty fn args va h1 h.inst hc hf PJ hk OT hl ha O4 hn Nm).mono (fun e w' he=>iD.end h2 h he)
theorem iD.plain (w:World) (F FX:Nat ->Bool) (X b:Nat) (iv:lg) (m:eI) (pre post:List Value) (t:TypeId) (eu:List fi) (lo:List fg) (fq:fg) (asks:Int) (k pc:Nat) (c:ij) (x:fa) (r:gz × fP)
  (h:iD w F FX X b iv m pre post t ⟨eu,lo++[fq],asks⟩) (hc:m.eF[k]?=some c) (hf:fq.fn=((m.imports.length+k:Nat):Int)) (OT:m.imports.length+k <=100000)
  (Qk:fq.pc=(pc:Int)) (hx:c.body[pc]?=some x) (Pc:¬ (x.op=15\/x.op=12\/x.op=13\/x.op=14\/x.op=16\/x.op=17))
  (hplain:∀(w':World) (D J g cap:Nat) (uv:Value) (us:List (Value × Value)) (u:Value × Value) (al:Option Addr) (cl:Nat),fV w' b pre post t ⟨uv, .slice (some ⟨g,0,none⟩) (lo.length+1) cap,us++[u]⟩ ⟨eu,lo++[fq],asks⟩ ->kx w' D X b pre.length g (lo.length*5) J ->iM w' FX X iv m ->gr w' J (o8 c) ->
   Calls prog 58 #[.pointer (some ⟨D,0,none⟩), .agg #[.int .i64 x.op, .int .i64 x.a, .int .i64 x.b, .slice al x.l.length cl]] w' (gq b pre post t ⟨uv, .slice (some ⟨g,0,none⟩) (lo.length+1) cap,us++[u]⟩ r w')):
  Calls prog 28 #[.pointer (some ⟨X,0,none⟩), .pointer (some ⟨b,pre.length,none⟩)] w (px F FX X b iv m pre post t r w):=by
 obtain⟨uv,g,cap,us,u,h1,h2⟩:=h.shape;exact(uU w FX X b g cap iv m pre post t uv us u eu lo fq asks k c pc r h1 h.inst hc hf OT (V h.inst.lt) Qk (.inr ⟨x,hx, .inl ⟨Pc,fun al cl w' D J=>hplain w' D J g cap uv us u al cl⟩⟩)).mono (fun e w' he=>iD.end h2 h he)
theorem iD.const (w:World) (F FX:Nat ->Bool) (X b:Nat) (iv:lg) (m:eI) (pre post:List Value) (t:TypeId) (eu:List fi) (lo:List fg) (fq:fg) (asks:Int) (k pc:Nat) (c:ij) (h:iD w F FX X b iv m pre post t ⟨eu,lo++[fq],asks⟩) (hc:m.eF[k]?=some c) (hf:fq.fn=((m.imports.length+k:Nat):Int)) (OT:m.imports.length+k <=100000) (Qk:fq.pc=(pc:Int)) (a:Int) (hx:c.body[pc]?=some ⟨65,a,0,[]⟩) (hn:eu.length <=50000) (hp:pc <=1000000):
  Calls prog 28 #[.pointer (some ⟨X,0,none⟩), .pointer (some ⟨b,pre.length,none⟩)] w (px F FX X b iv m pre post t (kB eu [⟨1,a⟩] ⟨eu,lo++[fq],asks⟩ lo fq) w):=
 iD.plain w F FX X b iv m pre post t eu lo fq asks k pc c _ _ h hc hf OT Qk hx (by simp) (fun w' D J g cap uv us u al cl h1 h2 _ _=>JH w' D X b g J cap pre post t uv us u eu lo fq asks a 0 al 0 cl h1 h2 hn (by omega))
theorem iD.local (w:World) (F FX:Nat ->Bool) (X b:Nat) (iv:lg) (m:eI) (pre post:List Value) (t:TypeId) (eu:List fi) (lo:List fg) (fq:fg) (asks:Int) (k pc:Nat) (c:ij) (h:iD w F FX X b iv m pre post t ⟨eu,lo++[fq],asks⟩) (hc:m.eF[k]?=some c) (hf:fq.fn=((m.imports.length+k:Nat):Int)) (OT:m.imports.length+k <=100000) (Qk:fq.pc=(pc:Int)) (i:Nat) (v:fi) (hx:c.body[pc]?=some ⟨32,(i:Int),0,[]⟩) (hv:fq.locals[i]?=some v) (hn:eu.length <=50000) (hp:pc <=1000000):
  Calls prog 28 #[.pointer (some ⟨X,0,none⟩), .pointer (some ⟨b,pre.length,none⟩)] w (px F FX X b iv m pre post t (kB eu [v] ⟨eu,lo++[fq],asks⟩ lo fq) w):=
 iD.plain w F FX X b iv m pre post t eu lo fq asks k pc c _ _ h hc hf OT Qk hx (by simp) (fun w' D J g cap uv us u al cl h1 h2 _ _=>J8 w' D X b g J cap pre post t uv us u eu lo fq asks i v 0 al 0 cl h1 h2 hn (by omega) hv)
theorem iD.sum (w:World) (F FX:Nat ->Bool) (X b:Nat) (iv:lg) (m:eI) (pre post:List Value) (t:TypeId) (eu:List fi) (lo:List fg) (fq:fg) (asks m1 n1:Int) (k pc:Nat) (c:ij) (h:iD w F FX X b iv m pre post t ⟨eu++[⟨1,m1⟩,⟨1,n1⟩],lo++[fq],asks⟩) (hc:m.eF[k]?=some c) (hf:fq.fn=((m.imports.length+k:Nat):Int)) (OT:m.imports.length+k <=100000) (Qk:fq.pc=(pc:Int)) (hx:c.body[pc]?=some ⟨106,0,0,[]⟩) (hn:eu.length <=50000) (hp:pc <=1000000) (h1:oS m1) (h2:oS n1):
  Calls prog 28 #[.pointer (some ⟨X,0,none⟩), .pointer (some ⟨b,pre.length,none⟩)] w (px F FX X b iv m pre post t (sc eu ⟨1,wrap32 (m1+n1)⟩ 0 ⟨eu++[⟨1,m1⟩,⟨1,n1⟩],lo++[fq],asks⟩ lo fq) w):=
 iD.plain w F FX X b iv m pre post t (eu++[⟨1,m1⟩,⟨1,n1⟩]) lo fq asks k pc c _ _ h hc hf OT Qk hx (by simp) (fun w' D J g cap uv us u al cl k1 k2 _ _=>
  K5 w' D b g cap pre post t uv us u (eu++[⟨1,m1⟩,⟨1,n1⟩]) lo fq asks 106 0 _ 0 al 0 cl k1 (by unfold lO;decide) (fun w2 No=>
   Ez w2 D X b g J cap pre post t uv us u eu ⟨1,m1⟩ ⟨1,n1⟩ lo fq asks 106 0 0 al 0 cl ⟨1,wrap32 (m1+n1)⟩ 0 (k1.below No) (k2.below No) hn (by omega) (by unfold yk;decide) (by decide) (fun w3=>Ks m1 n1 w3 h1 h2)))
theorem iD.ret (w:World) (F FX:Nat ->Bool) (X b:Nat) (iv:lg) (m:eI) (pre post:List Value) (t:TypeId) (l1 l2:List fi) (lo:List fg) (fq:fg) (asks:Int) (k pc:Nat) (c:ij) (ty:gC) (h:iD w F FX X b iv m pre post t ⟨l1++l2,lo++[fq],asks⟩) (hc:m.eF[k]?=some c) (hf:fq.fn=((m.imports.length+k:Nat):Int)) (OT:m.imports.length+k <=100000) (Qk:fq.pc=(pc:Int))
  (hx:c.body.length <=pc) (PJ:kq m fq.fn ty) (hk:m.imports.length+m.funcs.length <=100000) (NN:fq.base=(l1.length:Int)) (NO:0 < ty.results.length ->l1++l2≠[]) (hn:l1.length+l2.length <=50000):
  Calls prog 28 #[.pointer (some ⟨X,0,none⟩), .pointer (some ⟨b,pre.length,none⟩)] w (px F FX X b iv m pre post t (uR (lM l1 l2 (decide (0 < ty.results.length))) lo asks) w):=by
 obtain⟨uv,g,cap,us,u,h1,h2⟩:=h.shape;exact(uU w FX X b g cap iv m pre post t uv us u (l1++l2) lo fq asks k c pc _ h1 h.inst hc hf OT (V h.inst.lt) Qk (.inl ⟨hx,fun w' D J hs hd hi _=>GL w' FX D X b g J cap iv m pre post t uv us u l1 l2 lo fq asks ty hs hd hi PJ hk NN NO hn⟩)).mono (fun e w' he=>iD.end h2 h he)
theorem iD.MK {w:World} {F FX:Nat ->Bool} {X b:Nat} {iv:lg} {m:eI} {pre post:List Value} {t:TypeId} {eu:List fi} {lo:List fg} {fq:fg} {asks:Int} (h:iD w F FX X b iv m pre post t ⟨eu,lo++[fq],asks⟩):
  ∃g cap al cl la lc,(F b=false/\F g=false)/\w.cell? ⟨b,pre.length+1,none⟩=some (.slice (some ⟨g,0,none⟩) (lo.length+1) cap)/\lo.length+1 <=cap/\cap <=9223372036854775807/\
   (w.cell? ⟨g,lo.length*5,none⟩=some (.int .i64 fq.fn)/\w.cell? ⟨g,lo.length*5+1,none⟩=some (.int .i64 fq.pc)/\w.cell? ⟨g,lo.length*5+2,none⟩=some (.slice al fq.locals.length cl)/\w.cell? ⟨g,lo.length*5+3,none⟩=some (.int .i64 fq.base)/\w.cell? ⟨g,lo.length*5+4,none⟩=some (.slice la fq.labels.length lc))/\fq.locals.length <=cl/\cl <=9223372036854775807/\
   ∀j l,fq.locals[j]?=some l ->∃bl ol,al=some ⟨bl,ol,none⟩/\w.cell? ⟨bl,ol+j*2+1,none⟩=some (.int .i64 l.n):=by
 obtain⟨uv,g,cap,us,u,h1,h2⟩:=h.shape;obtain⟨⟨p0,p1,p2,p3,p4⟩,hf,-,-,-,PV,Ow⟩:=h1.cells;have hl:=hf.1.fT fK;obtain⟨al,cl,hu,h3,h4⟩:=hl.sl;rw [hu]at p2 hl;obtain⟨la,lc,Pq,-,-⟩:=(hf.2.fT mF).sl;rw [Pq]at p4;refine⟨g,cap,al,cl,la,lc,⟨h2 b (.inl rfl),h2 g (.inr (.inr (.inl (by simp [eO,Value.ownBlock]))))⟩,h1.c1,PV,Ow,⟨p0,p1,p2,p3,p4⟩,h3,h4,fun j l hj=>?_⟩;obtain⟨bl,ol,cl',he,-,-,-,hc⟩:=eA.at hl hj;injection he with he;exact⟨bl,ol,he,hc 1 _ rfl⟩
end
abbrev fl (n:Int):Nat:=floatOfInt .f64 n
theorem DS (n j:Nat) (h:n≠0):(n*2^j).log2=n.log2+j:=by
 have hp:n*2^j≠0:=Nat.mul_ne_zero h (by have:=dn j;omega);have h1:=Nat.log2_self_le h;have h2:=Nat.lt_log2_self (n:=n);have h3:n.log2+j <=(n*2^j).log2:=(Nat.le_log2 hp).2 (by rw [ef];exact cO _ h1);have h4:(n*2^j).log2 < n.log2+j+1:=(Nat.log2_lt hp).2 (by
  rw [show n.log2+j+1=(n.log2+1)+j by omega,ef];exact Nat.mul_lt_mul_of_pos_right h2 (dn j))
 omega
theorem yz (way:Ieee.Toward) (hw:way= .even\/way= .zero) (s:Bool) (q d:Nat):way.cut s (q*2^d) d=q:=by
 have hg:q=0\/1 <<< min d ((q*2^d).log2+2)=2^d:=by
  by_cases hq:q=0
  ·exact .inl hq
  ·right
   rw [DS q d hq,cq (by omega),Nat.one_shiftLeft]
 have hp:=dn d;rcases hg with rfl | hg
 ·rcases hw with rfl | rfl
  ·have hz:0 < 1 <<< min d ((0*2^d).log2+2):=by rw [Nat.one_shiftLeft];exact dn _
   simp only [Ieee.Toward.cut];generalize 1 <<< min d ((0*2^d).log2+2)=g at hz;rw [dX,Nat.zero_div,Nat.zero_mod];have:(decide (g < 2*0) || g==2*0&&0 %2==1)=false:=by simp
   rw [this];rfl
  ·simp only [Ieee.Toward.cut,dX,Nat.zero_div]
   rfl
 ·simp only [Ieee.Toward.cut]
  rw [hg,Nat.mul_div_cancel _ hp,Nat.mul_mod_left];rcases hw with rfl | rfl
  ·have:(decide (2^d < 2*0) || 2^d==2*0&&q %2==1)=false:=by
    simp
   simp only [this];rfl
  ·rfl
theorem Li (s:Bool) (n j:Nat) (h0:n≠0) (h:n < 9007199254740992):
  Ieee.double.nearest s (n*2^j) (-(j:Int))=Ieee.double.word s (min ((n.log2+1022)*4503599627370496+n*2^(52 - n.log2)) Ieee.double.infRung):=by
 have hL:n.log2 <=52:=by
  have:=(Nat.log2_lt h0 (k:=53)).2 (by simpa using h);omega
 have hm:n*2^j≠0:=Nat.mul_ne_zero h0 (by have:=dn j;omega);unfold Ieee.Format.nearest;rw [az hm];have e1:max (-(j:Int)+((n*2^j).log2:Nat) - (Ieee.double.fractionBits:Nat)) Ieee.double.leastPlace=(n.log2:Int) - 52:=by
  rw [DS n j h0];have:Ieee.double.leastPlace= -1074:=rfl;rw [this];have:(Ieee.double.fractionBits:Int)=52:=rfl;rw [this];omega
 simp only [e1];have e2:((n.log2:Int) - 52 - Ieee.double.leastPlace).toNat=n.log2+1022:=by
  have:Ieee.double.leastPlace= -1074:=rfl;rw [this];omega
 have e3:Ieee.double.binade=4503599627370496:=rfl;rw [e2,e3];have e4:Ieee.Toward.even.cut s ((n*2^j) <<< (-(j:Int) - ((n.log2:Int) - 52)).toNat) ((n.log2:Int) - 52 - -(j:Int)).toNat=n*2^(52 - n.log2):=by
  rw [Nat.shiftLeft_eq,show(n*2^j)*2^(-(j:Int) - ((n.log2:Int) - 52)).toNat=(n*2^(52 - n.log2))*2^((n.log2:Int) - 52 - -(j:Int)).toNat from ?_]
  ·exact yz .even (.inl rfl) s _ _
  ·rw [Nat.mul_assoc, <- ef,Nat.mul_assoc, <- ef]
   congr 2
   omega
 rw [e4]
def Fl (x:Nat) (v:Int):Prop:=∃s m j,Ieee.double.read x= .number s m (-((j:Nat):Int))/\(if s then -((m:Nat):Int)else(m:Int))=v*2^j/\(0 <=v ->s=false)
theorem uV {s:Bool} {m j:Nat} {v:Int} (h:(if s then -((m:Nat):Int)else(m:Int))=v*2^j):m=v.natAbs*2^j/\(v < 0 ->s=true)/\(0 < v ->s=false):=by
 have hp:(0:Int) < 2^j:=Int.pow_pos (by decide);refine⟨?_,fun hv=>?_,fun hv=>?_⟩
 ·have h1:((if s then -((m:Nat):Int)else(m:Int))).natAbs=m:=by cases s <;>simp
  rw [<- h1,h,Int.natAbs_mul]
  congr 1
 ·cases s with
  | true=>rfl
  | false=>
   have:=Int.mul_neg_of_neg_of_pos hv hp;simp at h;omega
 ·cases s with
  | false=>rfl
  | true=>
   have:=Int.mul_pos hv hp;simp at h;omega
theorem A0 {s:Bool} {m j:Nat} {v:Int} (h:(if s then -((m:Nat):Int)else(m:Int))=v*2^j) (hs:v=0 ->s=false) (hv:v.natAbs < 9007199254740992):Ieee.double.nearest s m (-(j:Int))=fl v:=by
 obtain⟨hm,h1,h2⟩:=uV h;show _=Ieee.double.nearest (decide (v < 0)) v.natAbs 0;by_cases q:v=0
 ·subst q
  rw [hs rfl,hm];simp [Ieee.Format.nearest]
 ·have q1:v.natAbs≠0:=by omega
  have e:=Li (decide (v < 0)) v.natAbs 0 q1 hv;simp only [Nat.pow_zero,aW,Int.ofNat_zero,Int.neg_zero]at e;have:s=decide (v < 0):=by
   by_cases q2:v < 0
   ·rw [h1 q2];simp [q2]
   ·rw [h2 (by omega)];simp [q2]
  rw [hm,Li s v.natAbs j q1 hv,this];exact e.symm
theorem pj {v:Int} (hv:v.natAbs < 9007199254740992):Fl (fl v) v:=by
 by_cases q:v=0
 ·subst q
  exact⟨false,0,1074,by decide,(Int.zero_mul _).symm,fun _=>rfl⟩
 have q1:v.natAbs≠0:=by omega
 have e:=Li (decide (v < 0)) v.natAbs 0 q1 hv;simp only [Nat.pow_zero,aW,Int.ofNat_zero,Int.neg_zero]at e;have e:fl v=_:=e;have hL:v.natAbs.log2 <=52:=by
  have:=(Nat.log2_lt q1 (k:=53)).2 (by simpa using hv);omega
 have b1:=Nat.log2_self_le q1;have b2:=Nat.lt_log2_self (n:=v.natAbs);have b3:4503599627370496 <=v.natAbs*2^(52 - v.natAbs.log2):=by
  have:=cO (2^(52 - v.natAbs.log2)) b1;rw [<- ef,show v.natAbs.log2+(52 - v.natAbs.log2)=52 by omega]at this;exact this
 have b4:v.natAbs*2^(52 - v.natAbs.log2) < 9007199254740992:=by
  have:=Nat.mul_lt_mul_of_pos_right b2 (dn (52 - v.natAbs.log2));rw [<- ef,show v.natAbs.log2+1+(52 - v.natAbs.log2)=53 by omega]at this;exact this
 refine⟨decide (v < 0),v.natAbs*2^(52 - v.natAbs.log2),52 - v.natAbs.log2,?_,?_,fun h=>by simp;omega⟩
 ·rw [e]
  generalize v.natAbs*2^(52 - v.natAbs.log2)=qq at b3 b4;generalize v.natAbs.log2=L at hL;have i1:Ieee.double.infRung=9218868437227405312:=by decide
  have i2:Ieee.double.signWeight=9223372036854775808:=by decide
  have i3:Ieee.double.binade=4503599627370496:=rfl;have i4:Ieee.double.leastPlace= -1074:=rfl;rw [i1,cq (by omega)];unfold Ieee.Format.read Ieee.Format.word;rw [i1,i2,i3,i4];obtain⟨r,hr⟩:∃r,(L+1022)*4503599627370496+qq=r:=⟨_,rfl⟩;rw [hr];have r1:¬ r < 4503599627370496:=by omega
  have r2:r < 9218868437227405312:=by omega
  have r3:4503599627370496+r %4503599627370496=qq:=by omega
  have r4:r/4503599627370496=L+1023:=by omega
  have r5:(-1074+((r/4503599627370496 - 1:Nat):Int))= -((52 - L:Nat):Int):=by rw [r4];omega
  cases decide (v < 0)
  ·have e5:r/9223372036854775808 %2=0:=by omega
   have e6:r %9223372036854775808=r:=by omega
   simp only [bM,dB,e5,e6,az r1,aE r2,r3,r5];rfl
  ·have e5:(9223372036854775808+r)/9223372036854775808 %2=1:=by omega
   have e6:(9223372036854775808+r) %9223372036854775808=r:=by omega
   simp only [cT,e5,e6,az r1,aE r2,r3,r5];rfl
 ·have hc:((2^(52 - v.natAbs.log2):Nat):Int)=(2:Int)^(52 - v.natAbs.log2):=by simp
  rw [<- hc];by_cases q2:v < 0
  ·rw [aE (by simpa using q2),Int.natCast_mul, <- Int.neg_mul]
   congr 1
   omega
  ·rw [az (by simpa using q2),Int.natCast_mul]
   congr 1
   omega
theorem xE {s:Bool} {m j K:Nat} {v:Int} (h:(if s then -((m:Nat):Int)else(m:Int))=v*2^j) (hK:j <=K):Ieee.signed s m (K - j)=v*2^K:=by
 have hc:((2^(K - j):Nat):Int)=(2:Int)^(K - j):=by simp
 have:Ieee.signed s m (K - j)=(if s then -((m:Nat):Int)else(m:Int))*2^(K - j):=by
  unfold Ieee.signed;rw [Nat.shiftLeft_eq, <- hc];cases s
  ·simp
  ·simp [Int.neg_mul]
 rw [this,h,Int.mul_assoc, <- Int.pow_add,show j+(K - j)=K by omega]
theorem GG {s t:Bool} {m n j k:Nat} {a b:Int} (h1:(if s then -((m:Nat):Int)else(m:Int))=a*2^j) (hs:0 <=a ->s=false) (h2:(if t then -((n:Nat):Int)else(n:Int))=b*2^k) (hv:(a+b).natAbs < 9007199254740992):
  ((Ieee.Datum.number s m (-(j:Int))).sum (.number t n (-(k:Int)))).map Ieee.double.write=some (fl (a+b)):=by
 obtain⟨K,hK⟩:∃K,K=max j k:=⟨_,rfl⟩;have e1:min (-(j:Int)) (-(k:Int))= -(K:Int):=by omega
 have e2:(-(j:Int) - -(K:Int)).toNat=K - j:=by omega
 have e3:(-(k:Int) - -(K:Int)).toNat=K - k:=by omega
 have hp:(0:Int) < 2^K:=Int.pow_pos (by decide);obtain⟨-,-,h4⟩:=uV h2;simp only [Ieee.Datum.sum,e1,e2,e3];rw [xE h1 (by omega),xE h2 (by omega), <- Int.add_mul];simp only [bA,Ieee.Format.write];refine cY some (A0 ?_ ?_ hv)
 ·by_cases q:(a+b)*2^K=0
  ·rw [aE q,q]
   simp
  ·rw [az q]
   by_cases q2:(a+b)*2^K < 0
   ·rw [aE (by simpa using q2)]
    omega
   ·rw [az (by simpa using q2)]
    omega
 ·intro h0
  rw [h0,Int.zero_mul,aE rfl];by_cases q:0 <=a
  ·rw [hs q];rfl
  ·rw [h4 (by omega)];simp
theorem Co {a b:Int} (ha:a.natAbs < 9007199254740992) (hb:b.natAbs < 9007199254740992) (QU:(a+b).natAbs < 9007199254740992):floatBits .add .f64 (fl a) (fl b)=some (fl (a+b)):=by
 obtain⟨s,m,j,h1,h2,h3⟩:=pj ha;obtain⟨t,n,k,h4,h5,-⟩:=pj hb;show((Ieee.double.read (fl a)).sum (Ieee.double.read (fl b))).map Ieee.double.write=_;rw [h1,h4];exact GG h2 h3 h5 QU
theorem Lt {a b:Int} (ha:a.natAbs < 9007199254740992) (hb:b.natAbs < 9007199254740992) (QU:(a - b).natAbs < 9007199254740992):floatBits .sub .f64 (fl a) (fl b)=some (fl (a - b)):=by
 obtain⟨s,m,j,h1,h2,h3⟩:=pj ha;obtain⟨t,n,k,h4,h5,-⟩:=pj hb;show((Ieee.double.read (fl a)).sum (Ieee.double.read (fl b)).opposite).map Ieee.double.write=_;rw [h1,h4];have e:=GG (t:= !t) (n:=n) (k:=k) (b:= -b) h2 h3 (by rw [Int.neg_mul, <- h5];cases t <;>simp) (by rw [<- Int.sub_eq_add_neg];exact QU);rw [<- Int.sub_eq_add_neg]at e;exact e
theorem zF {a b:Int} (ha0:0 <=a) (NG:0 <=b) (ha:a.natAbs < 9007199254740992) (hb:b.natAbs < 9007199254740992) (QU:(a*b).natAbs < 9007199254740992):floatBits .mul .f64 (fl a) (fl b)=some (fl (a*b)):=by
 obtain⟨s,m,j,h1,h2,h3⟩:=pj ha;obtain⟨t,n,k,h4,h5,h6⟩:=pj hb;show((Ieee.double.read (fl a)).product (Ieee.double.read (fl b))).map Ieee.double.write=_;rw [h1,h4];have hs:=h3 ha0;have ht:=h6 NG;subst hs ht;simp only [bM,dB]at h2 h5;simp only [Ieee.Datum.product,bA,Ieee.Format.write];rw [show -(j:Int)+ -(k:Int)= -((j+k:Nat):Int)by omega];refine cY some (A0 ?_ (fun _=>rfl) QU);simp only [Bool.xor_false,bM,dB,Int.natCast_mul];rw [h2,h5,Int.pow_add];simp only [Int.mul_assoc,Int.mul_left_comm]
theorem AN {a:Int} (ha:a.natAbs < 9007199254740992):floatToIntVal .f64 (fl a) .i64=some a:=by
 obtain⟨s,m,j,h1,h2,h3⟩:=pj ha;have e:(FloatKind.f64.decode (fl a)).toInt .zero=some a:=by
  show(Ieee.double.read (fl a)).toInt .zero=_;rw [h1];obtain⟨hm,h4,h5⟩:=uV h2;simp only [Ieee.Datum.toInt,Ieee.Datum.integral];rw [show(-(j:Int)).toNat=0 by omega,show(- -(j:Int)).toNat=j by omega,Nat.shiftLeft_eq,Nat.pow_zero,aW,hm,yz .zero (.inr rfl)];unfold Ieee.signed;rw [Nat.shiftLeft_eq,Nat.pow_zero,aW];by_cases q:a < 0
  ·rw [h4 q,aE rfl]
   congr 1
   omega
  ·rw [h3 (by omega)]
   simp only [bM,dB]
   congr 1
   omega
 unfold floatToIntVal;rw [e];have hb:(IntKind.i64.min:Int) <=a/\a <=IntKind.i64.max:=by
  have h1:IntKind.i64.min= -9223372036854775808:=by decide
  have h2:IntKind.i64.max=9223372036854775807:=by decide
  rw [h1,h2];omega
 simp only [hb,and_self,cT]
theorem oV:fl 0=0:=by decide
theorem K3:fl 1=4607182418800017408:=by decide+kernel
theorem K8:fl 2=4611686018427387904:=by decide+kernel
theorem Jn:fl 4=4616189618054758400:=by decide+kernel
theorem BY (a b:Int) (w:World):Calls prog 86 #[.int .i64 a, .int .i64 b] w (fX (.complex .f64 (fl a) (fl b)) w):=by
 go_enter func86,ntmps86;go_wp2;go_ret;exact⟨rfl,an _ _⟩
theorem Ep (n:Int) (hn:n.natAbs < 9007199254740992) (wx:World):(convert 129 3 (.float .f64 (fl n))).run prog wx= .ok (.int .i64 n) wx:=
 run_convert_float_int wx 129 3 .f64 .i64 (fl n) n (by kernel_rfl) (by kernel_rfl) (AN hn)
theorem tM (n:Int) (hn:n.natAbs < 9007199254740992) (wx:World):(convert 129 2 (.float .f64 (fl n))).run prog wx= .ok (.int .i64 n) wx:=
 run_convert_float_int wx 129 2 .f64 .i64 (fl n) n (by kernel_rfl) (by kernel_rfl) (AN hn)
theorem Ek (n:Int) (y:Nat) (hn:n.natAbs < 9007199254740992) (w:World):Calls prog 27 #[.complex .f64 (fl n) y] w (fX (.int .i64 n) w):=by
 have h:=Ep n hn;go_enter func27,ntmps27;go_wp2;go_ret;exact⟨rfl,an _ _⟩
def qz (op:Int):Prop:=op≠40/\op≠54/\op≠41/\op≠55/\op≠44/\op≠45/\op≠58
theorem zW (op:Int) (h:qz op) (w:World):Calls prog 52 #[.int .i64 op] w (fX (.complex .f64 (fl 1) (fl 0)) w):=by
 obtain⟨h1,h2,h3,h4,h5,h6,h7⟩:=h;replace h1:=eh h1;replace h2:=eh h2;replace h3:=eh h3;replace h4:=eh h4;replace h5:=eh h5;replace h6:=eh h6;replace h7:=eh h7;go_enter func52,ntmps52;go_wp2_with fail;refine(BY 1 0 _).mono ?_;rintro e w1 ⟨rfl,hb⟩;go_wp2;go_ret;exact⟨rfl,hb⟩
theorem zt (a b c d:Int) (ha:a.natAbs < 9007199254740992) (hb:b.natAbs < 9007199254740992) (hc:c.natAbs < 9007199254740992) (hd:d.natAbs < 9007199254740992) (hac:(a+c).natAbs < 9007199254740992) (PD:(b+d).natAbs < 9007199254740992) (wx:World):
  (binOp .add 61 (.complex .f64 (fl a) (fl b)) (.complex .f64 (fl c) (fl d))).run prog wx= .ok (.complex .f64 (fl (a+c)) (fl (b+d))) wx:=by
 refine run_complex_sum wx .add (.inl rfl) _ .f64 _ _ _ _ _ _ ?_;unfold cSumBits;rw [Co ha hc hac,Co hb hd PD];rfl
theorem F0 (n:Int) (hn:0 <=n/\n <=1000000) (B:Nat) (w:World) (h0:w.cell? ⟨B,0,none⟩=some (.complex .f64 (fl n) (fl 0))) (h1:w.cell? ⟨B,1,none⟩=some (.complex .f64 (fl 1) (fl 0))):
  Calls prog 25 #[.slice (some ⟨B,0,none⟩) 2 2] w (fX (.complex .f64 (fl (n+1)) (fl 0)) w):=by
 have r1:=zt 0 0 n 0 (by decide) (by decide) (by omega) (by decide) (by omega) (by decide);have r2:=zt n 0 1 0 (by omega) (by decide) (by decide) (by decide) (by omega) (by decide);rw [Int.zero_add,Int.zero_add,oV]at r1;rw [Int.zero_add,oV]at r2;rw [oV]at h0 h1;go_enter func25,ntmps25;go_wp2_with fail;refine cQ 3 ?_;rw [cg];go_wp2_with fail;rw [cg];go_wp2_with fail;rw [cg];go_wp2;go_ret;rw [oV];exact⟨rfl,an _ _⟩
theorem mod_eq (n:Int):(wrap64 (n.tmod 1000003+1000003)).tmod 1000003=n %1000003:=by
 have h:∃x,n.tmod 1000003=x/\ -1000003 < x/\(x+1000003) %1000003=n %1000003:=by
  by_cases q:0 <=n
  ·exact⟨n %1000003,cX q,by omega,by omega⟩
  ·refine⟨-(-n %1000003),?_,by omega,by omega⟩
   rw [<- cX (show 0 <= -n by omega),Int.neg_tmod,Int.neg_neg]
 have hu:n.tmod 1000003 < 1000003:=Int.tmod_lt_of_pos n (by decide);obtain⟨x,hx,h1,h2⟩:=h;rw [hx]at hu⊢;rw [IntWalk.wrap64_in _ (by omega),cX (by omega),h2]
theorem zB (n:Int) (w:World):Calls prog 61 #[.int .i64 n] w (fX (.int .i64 (n %1000003)) w):=by
 go_enter func61,ntmps61;go_wp2;go_ret;refine⟨?_,an _ _⟩;show Ending.returned (.int .i64 _)=_;rw [mod_eq]
theorem Kq (a c:Int) (ha:0 <=a/\a < 1000003) (hc:0 <=c/\c < 1000003) (wx:World):
  (binOp .mul 61 (.complex .f64 (fl a) (fl c)) (.complex .f64 4607182418800017408 4611686018427387904)).run prog wx= .ok (.complex .f64 (fl (a - c*2)) (fl (a*2+c))) wx:=by
 rw [<- K3, <- K8];refine run_complex_mul wx _ _ _ _ _ _ _ ?_;unfold cMulBits;rw [zF ha.1 (by decide) (by omega) (by decide) (by omega),zF hc.1 (by decide) (by omega) (by decide) (by omega),zF ha.1 (by decide) (by omega) (by decide) (by omega),zF hc.1 (by decide) (by omega) (by decide) (by omega)];simp only [ao,Int.mul_one];rw [Lt (by omega) (by omega) (by omega),Co (by omega) (by omega) (by omega)];rfl
theorem G6 (a c fn n:Int) (h:0 <=a/\a < 1000003/\0 <=c/\c < 1000003) (To:0 <=fn/\fn <=1000) (w:World):
  Calls prog 29 #[.complex .f64 (fl a) (fl c), .int .i64 fn, .int .i64 n] w (fun e w'=>∃mk:Int × Int,(0 <=mk.1/\mk.1 < 1000003/\0 <=mk.2/\mk.2 < 1000003)/\e= .returned (.complex .f64 (fl mk.1) (fl mk.2))/\Below w.heap.size w w'):=by
 have r1:=Kq a c ⟨h.1,h.2.1⟩ h.2.2;go_enter func29,ntmps29;go_wp2_with fail;clear r1;refine(zB n w).mono ?_;rintro e w1 ⟨rfl,hb⟩;obtain⟨x,hx⟩:∃x,x=n %1000003:=⟨_,rfl⟩;have hx1:0 <=x/\x < 1000003:=by omega
 rw [<- hx];clear hx;have r2:=zt (a - c*2) (a*2+c) (fn+1) x (by omega) (by omega) (by omega) (by omega) (by omega) (by omega);obtain⟨re,hre⟩:∃re,re=a - c*2+(fn+1):=⟨_,rfl⟩;obtain⟨im,him⟩:∃im,im=a*2+c+x:=⟨_,rfl⟩;rw [<- hre, <- him]at r2;have r3:=tM re (by omega);have r4:=tM im (by omega);clear hre him;go_wp2_with fail;clear r2 r3;refine(zB re w1).mono ?_;rintro e w2 ⟨rfl,No⟩;go_wp2_with fail;clear r4;refine(zB im w2).mono ?_;rintro e w3 ⟨rfl,NP⟩;go_wp2;go_ret;exact⟨(re %1000003,im %1000003),⟨Int.emod_nonneg _ (by decide),Int.emod_lt_of_pos _ (by decide),Int.emod_nonneg _ (by decide),Int.emod_lt_of_pos _ (by decide)⟩,rfl,ej (ej hb No) NP⟩
section
def sB (o:gz) (vv:Value) (n calls:Int) (mk:Int × Int):List Value:=[.int .i64 o.kind, .int .i64 o.lH, .int .i64 o.fn,vv, .complex .f64 (fl n) (fl 0), .int .i64 calls, .complex .f64 (fl mk.1) (fl mk.2)]
structure zL where
 o:gz
 n:Int
 calls:Int
 yV:Int × Int
structure jb (w:World) (F FX:Nat ->Bool) (X b:Nat) (iv:lg) (m:eI) (q:zL) (s:fP):Prop where
 run:∃a c,iD w F FX X b iv m [.pointer (some ⟨X,0,none⟩)] (sB q.o (.slice a q.o.eu.length c) q.n q.calls q.yV) 81 s/\ei 52 2 fR w 0 (.slice a q.o.eu.length c) q.o.eu/\F b=false
 Mw:q.o.eu.length <=1000
 bc:0 <=q.calls/\q.calls <=1000000
 bn:0 <=q.n/\q.n <=1000000
 bm:0 <=q.yV.1/\q.yV.1 < 1000003/\0 <=q.yV.2/\q.yV.2 < 1000003
theorem fV.mT {w:World} {b:Nat} {pre post post':List Value} {t:TypeId} {v:qC} {s:fP} (h:fV w b pre post t v s) (k:Nat) (x:Value) (he:(gg pre v s.asks post).setIfInBounds k x=gg pre v s.asks post'):fV (w.setCell ⟨b,k,none⟩ x) b pre post' t v s:=by
 have Np:=eE w b k x;refine⟨?_,h.eu.keeps Np (fun g hg e=>h.Cg h.eu (.inl rfl) (e▸hg)),h.ez.keeps Np (fun g hg e=>h.Cg h.ez (.inr (.inl rfl)) (e▸hg)),h.rows.to (fun f u _ h3=>h3.keeps Np (fun g hg e=>?_)),h.KV,h.apart,h.ty⟩
 ·have:=h.jE.set k x
  rw [he]at this;exact this
 ·subst e
  rcases hg with hg | hg
  ·exact h.Cg h3.1 (.inl rfl) hg
  ·exact h.Cg h3.2 (.inr (.inr rfl)) hg
theorem JZ (p uv uf:Value) (us:List (Value × Value)) (n:Int) (post:List Value) (k:Nat) (x:Value):(gg [p] ⟨uv,uf,us⟩ n post).setIfInBounds (4+k) x=gg [p] ⟨uv,uf,us⟩ n (post.set k x):=by
 simp only [gg,aX]
 congr 1
 rw [show 4+k=k+4 by omega];rfl
theorem iD.mT {w:World} {F FX:Nat ->Bool} {X b:Nat} {iv:lg} {m:eI} {p:Value} {post:List Value} {t:TypeId} {s:fP} (h:iD w F FX X b iv m [p] post t s) (hF:F b=false) (k:Nat) (x:Value):iD (w.setCell ⟨b,4+k,none⟩ x) F FX X b iv m [p] (post.set k x) t s:=by
 obtain⟨v,h1,h2⟩:=h.st;have Np:=eE w b (4+k) x;refine⟨⟨v,h1.mT (4+k) x (by obtain⟨uv,uf,us⟩:=v;exact JZ _ _ _ _ _ _ _ _),h2⟩,h.inst.keeps Np (fun g hg=>by rw [hg];exact h.fx b hF),h.sub,fun g hg=>bp (h.lt g hg) Np.size⟩
theorem iD.mP {w:World} {F FX:Nat ->Bool} {X b:Nat} {iv:lg} {m:eI} {p:Value} {post:List Value} {t:TypeId} {s:fP} (h:iD w F FX X b iv m [p] post t s):w.cell? ⟨b,0,none⟩=some p/\∀k,w.cell? ⟨b,4+k,none⟩=post[k]?:=by
 obtain⟨v,h1,-⟩:=h.st;refine⟨h1.jE.cell 0,fun k=>(h1.jE.cell (4+k)).trans ?_⟩;simp only [gg,aM];rw [show 4+k=k+4 by omega];rfl
theorem iD.tF {w:World} {F FX:Nat ->Bool} {X b:Nat} {iv:lg} {m:eI} {p:Value} {post:List Value} {t:TypeId} {s:fP} (h:iD w F FX X b iv m [p] post t s) (k:Nat):w.frozen? ⟨b,k,none⟩=false:=by
 obtain⟨v,h1,-⟩:=h.st;exact h1.jE.free k
section
variable {w w':World} {F FX:Nat ->Bool} {X b:Nat} {iv:lg} {m:eI} {q:zL} {s:fP}
theorem jb.below (h:jb w F FX X b iv m q s) (hb:Below w.heap.size w w'):jb w' F FX X b iv m q s:=by
 obtain⟨a,c,h1,h2,h3⟩:=h.run;exact⟨⟨a,c,h1.below hb,h2.below hb,h3⟩,h.Mw,h.bc,h.bn,h.bm⟩
theorem jb.add (h:jb w F FX X b iv m q s) (hb:Below w.heap.size w w') (Y:Nat) (h1:w.heap.size <=Y) (h2:Y < w'.heap.size):jb w' (fun g=>F g || decide (g=Y)) FX X b iv m q s:=by
 obtain⟨a,c,h3,h4,h5⟩:=h.run;refine⟨⟨a,c,h3.add hb Y h1 h2,h4.below hb,?_⟩,h.Mw,h.bc,h.bn,h.bm⟩;obtain⟨v,h6,-⟩:=h3.st;have:=h6.jE.lt;have Ox:b≠Y:=by omega
 simp [h5,Ox]
theorem jb.cells (h:jb w F FX X b iv m q s):∃a c,(w.cell? ⟨b,0,none⟩=some (.pointer (some ⟨X,0,none⟩))/\w.cell? ⟨b,4,none⟩=some (.int .i64 q.o.kind)/\w.cell? ⟨b,5,none⟩=some (.int .i64 q.o.lH)/\w.cell? ⟨b,6,none⟩=some (.int .i64 q.o.fn)/\
  w.cell? ⟨b,7,none⟩=some (.slice a q.o.eu.length c)/\w.cell? ⟨b,8,none⟩=some (.complex .f64 (fl q.n) (fl 0))/\w.cell? ⟨b,9,none⟩=some (.int .i64 q.calls)/\w.cell? ⟨b,10,none⟩=some (.complex .f64 (fl q.yV.1) (fl q.yV.2)))/\
  eA 2 fR w (.slice a q.o.eu.length c) q.o.eu/\∀k,w.frozen? ⟨b,k,none⟩=false:=by
 obtain⟨a,c,h1,h2,-⟩:=h.run;obtain⟨h3,h4⟩:=h1.mP;exact⟨a,c,⟨h3,h4 0,h4 1,h4 2,h4 3,h4 4,h4 5,h4 6⟩,h2.fT fK,h1.tF⟩
end
theorem Bk {w:World} {a:Addr} {v:Value} {k:FloatKind} {x y:Nat} (h:w.cell? a=some v) (hz:w.frozen? a=false):(store a (.complex k x y)).run prog w= .ok () (w.setCell a (.complex k x y)):=by
 rw [run_store _ _ _ _ _ rfl,h,hz];rfl
def sb (w:World) (b:Nat) (o:gz) (v:Value):World:=(((w.setCell ⟨b,4,none⟩ (.int .i64 o.kind)).setCell ⟨b,5,none⟩ (.int .i64 o.lH)).setCell ⟨b,6,none⟩ (.int .i64 o.fn)).setCell ⟨b,7,none⟩ v
theorem nQ (w:World) (b:Nat) (o:gz) (v:Value):ep (fun i=>i=b) w (sb w b o v):=
 (((eE w b 4 _).trans (eE _ b 5 _) (fun _ h=> .inl h)).trans (eE _ b 6 _) (fun _ h=> .inl h)).trans (eE _ b 7 _) (fun _ h=> .inl h)
theorem iD.sb {w:World} {F FX:Nat ->Bool} {X b:Nat} {iv:lg} {m:eI} {p:Value} {t:TypeId} {s:fP} {o:gz} {v:Value} {n c:Int} {mk:Int × Int} (h:iD w F FX X b iv m [p] (sB o v n c mk) t s) (hF:F b=false) (o':gz) (v':Value):
  iD (sb w b o' v') F FX X b iv m [p] (sB o' v' n c mk) t s:=(((h.mT hF 0 (.int .i64 o'.kind)).mT hF 1 (.int .i64 o'.lH)).mT hF 2 (.int .i64 o'.fn)).mT hF 3 v'
theorem iD.K0 {w:World} {F FX:Nat ->Bool} {X b:Nat} {iv:lg} {m:eI} {pre post:List Value} {t:TypeId} {s:fP} (h:iD w F FX X b iv m pre post t s) {B:Nat} {v:Value} {l:List fi} (ho:ei 52 2 fR w B v l):¬ eO v b:=by
 obtain⟨u,h1,-⟩:=h.st;exact h1.Cg ho (.inl rfl)
theorem iD.Ll {w:World} {F FX:Nat ->Bool} {X b:Nat} {iv:lg} {m:eI} {p v:Value} {t:TypeId} {s:fP} {o:gz} {n c:Int} {mk:Int × Int} (h:iD w F FX X b iv m [p] (sB o v n c mk) t s):
  (w.cell? ⟨b,4,none⟩=some (.int .i64 o.kind)/\w.cell? ⟨b,5,none⟩=some (.int .i64 o.lH)/\w.cell? ⟨b,6,none⟩=some (.int .i64 o.fn)/\w.cell? ⟨b,7,none⟩=some v)/\w.frozen? ⟨b,4,none⟩=false/\w.frozen? ⟨b,5,none⟩=false/\w.frozen? ⟨b,6,none⟩=false/\w.frozen? ⟨b,7,none⟩=false:=
 ⟨⟨h.mP.2 0,h.mP.2 1,h.mP.2 2,h.mP.2 3⟩,h.tF 4,h.tF 5,h.tF 6,h.tF 7⟩
theorem jb.of {w:World} {F FX:Nat ->Bool} {X b:Nat} {iv:lg} {m:eI} {s:fP} {o o':gz} {v:Value} {a:Option Addr} {c' B:Nat} {n c:Int} {mk:Int × Int} (h:iD w F FX X b iv m [.pointer (some ⟨X,0,none⟩)] (sB o v n c mk) 81 s) (hF:F b=false)
  (ho:ei 52 2 fR w B (.slice a o'.eu.length c') o'.eu) (hl:o'.eu.length <=1000) (bc:0 <=c/\c <=1000000) (bn:0 <=n/\n <=1000000) (bm:0 <=mk.1/\mk.1 < 1000003/\0 <=mk.2/\mk.2 < 1000003):
  jb (Go.Proofs.YtjmeglibedbljaaGreatDoor.sb w b o' (.slice a o'.eu.length c')) F FX X b iv m ⟨o',n,c,mk⟩ s:=
 ⟨⟨a,c',h.sb hF _ _,(ho.lower (bg _)).keeps (nQ w b _ _) (fun _ hg e=>h.K0 ho (e▸hg)),hF⟩,hl,bc,bn,bm⟩
def tI (w:World) (b:Nat):World:=((w.setCell ⟨b,1,none⟩ (.slice none 0 0)).setCell ⟨b,2,none⟩ (.slice none 0 0)).setCell ⟨b,3,none⟩ (.int .i64 (-1))
theorem pI (w:World) (b:Nat):ep (fun i=>i=b) w (tI w b):=
 ((eE w b 1 _).trans (eE _ b 2 _) (fun _ h=> .inl h)).trans (eE _ b 3 _) (fun _ h=> .inl h)
theorem iD.tI {w:World} {F FX:Nat ->Bool} {X b:Nat} {iv:lg} {m:eI} {p:Value} {post:List Value} {t:TypeId} {s:fP} (h:iD w F FX X b iv m [p] post t s) (hF:F b=false):iD (tI w b) F FX X b iv m [p] post t ⟨[],[],-1⟩:=by
 obtain⟨v,h1,h2⟩:=h.st;have Np:=pI w b;refine⟨⟨⟨.slice none 0 0, .slice none 0 0,[]⟩,⟨?_,ei.nil _ _,ei.nil _ _,trivial,by simp,List.Pairwise.nil,h1.ty⟩,fun g hg=>?_⟩,h.inst.keeps Np (fun g hg=>by rw [hg];exact h.fx b hF),h.sub,fun g hg=>bp (h.lt g hg) Np.size⟩
 ·have:=((h1.jE.set 1 (.slice none 0 0)).set 2 (.slice none 0 0)).set 3 (.int .i64 (-1))
  unfold Go.Proofs.YtjmeglibedbljaaGreatDoor.tI;simpa [gg] using this
 ·rcases hg with rfl | hg | hg | ⟨u,hu,-⟩
  ·exact hF
  ·cases hg
  ·cases hg
  ·cases hu
def vU (X:Nat):Array Value:=#[.pointer (some ⟨X,0,none⟩), .slice none 0 0, .slice none 0 0, .int .i64 (-1), .int .i64 0, .int .i64 0, .int .i64 0, .slice none 0 0, .complex .f64 0 0, .int .i64 0, .complex .f64 0 0]
theorem jb.new {w:World} {FX:Nat ->Bool} {X:Nat} {iv:lg} {m:eI} (h:iM w FX X iv m):
  jb (w.alloc (.cells (vU X) 81)) (fun g=>decide (g < w.heap.size)) FX X w.heap.size iv m ⟨⟨0,0,0,[]⟩,0,0,(0,0)⟩ ⟨[],[],-1⟩:=by
 have hb:=(an w.heap.size w).alloc (ag _) (.cells (vU X) 81);refine⟨⟨none,0,⟨⟨⟨.slice none 0 0, .slice none 0 0,[]⟩,⟨?_,ei.nil _ _,ei.nil _ _,trivial,by simp,List.Pairwise.nil,by decide⟩,fun g hg=>?_⟩,h.below hb,fun g hg=>by simp [h.lt g hg],fun g hg=>?_⟩,ei.nil _ _,by simp⟩,by decide,by decide,by decide,by decide⟩
 ·have:=eS.new w (vU X) 81
  unfold sB;rw [oV];exact this
 ·rcases hg with rfl | hg | hg | ⟨u,hu,-⟩
  ·simp
  ·cases hg
  ·cases hg
  ·cases hu
 ·simp only [cR]at hg
  rw [aC];omega
theorem jb.other {w w':World} {F FX:Nat ->Bool} {X b:Nat} {iv:lg} {m:eI} {q:zL} {s:fP} (h:jb w F FX X b iv m q s) {Y:Nat} {xs:Array Value} {t:TypeId} (hY:eS w Y xs t) (ht:52≠t) (hk:ep (fun i=>i=Y) w w') (hF:F Y=true) (hX:FX Y=false):jb w' F FX X b iv m q s:=by
 obtain⟨a,c,h1,h2,h3⟩:=h.run;exact⟨⟨a,c,h1.keeps hk (fun g hg=>by rw [hg];exact⟨hX, .inl hF⟩),h2.keeps hk (fun g hg e=>ei.gF h2 hY ht g hg e),h3⟩,h.Mw,h.bc,h.bn,h.bm⟩
end
end Go.Proofs.YtjmeglibedbljaaGreatDoor
