import Derived.Test.YtjmeglibedbljaaGreatDoorRunWorldJ11
namespace Go.Proofs.YtjmeglibedbljaaGreatDoor
set_option maxRecDepth 100000
set_option maxHeartbeats 20000000
open Go.RowKit Tryz
open Lib renaming hid->V
set_option linter.all false
theorem eA.at {α:Type} {k:Nat} {enc:α ->List Value} {w:World} {v:Value} {l:List α} (h:eA k enc w v l) {i:Nat} {x:α} (hx:l[i]?=some x):∃b off cap,v= .slice (some ⟨b,off,none⟩) l.length cap/\l.length <=cap/\cap <=9223372036854775807/\b < w.heap.size/\∀j u,(enc x)[j]?=some u ->w.cell? ⟨b,off+i*k+j,none⟩=some u:=by
 obtain⟨a,cap,rfl,h1,h2,h3⟩:=h;obtain⟨b,off,rfl,Nu,hc⟩:=h3 i x hx;exact⟨b,off,cap,rfl,h1,by simpa [maxLen] using h2,Nu,hc⟩
theorem eA.sl {α:Type} {k:Nat} {enc:α ->List Value} {w:World} {v:Value} {l:List α} (h:eA k enc w v l):∃a cap,v= .slice a l.length cap/\l.length <=cap/\cap <=9223372036854775807:=by
 obtain⟨a,cap,rfl,h1,h2,h3⟩:=h;exact⟨a,cap,rfl,h1,by simpa [maxLen] using h2⟩
theorem eD.at {α β:Type} {k:Nat} {enc:α × β ->List Value} {inner:World ->α ->β ->Prop} {w:World} {v:Value} {l:List α} (h:eD k enc inner w v l) {i:Nat} {x:α} (hx:l[i]?=some x):∃b off cap u,v= .slice (some ⟨b,off,none⟩) l.length cap/\l.length <=cap/\cap <=9223372036854775807/\b < w.heap.size/\(∀j v,(enc (x,u))[j]?=some v ->w.cell? ⟨b,off+i*k+j,none⟩=some v)/\inner w x u:=by
 obtain⟨a,cap,rfl,h1,h2⟩:=h.slice;obtain⟨b,off,u,rfl,Nu,hc,hi⟩:=h.get hx;exact⟨b,off,cap,u,rfl,h1,h2,Nu,hc,hi⟩
def tm (FX:Nat ->Bool) (w:World):World:=mask (fun k=> !FX k) w
theorem ka {FX:Nat ->Bool} {w w':World} (h:Below w.heap.size w w'):Ext (tm FX w) (tm FX w'):=iY (ep.et (S:=fun _=>False) h) (fun _ _ h=>h.elim) (fun _ _ h=>h)
theorem wu {P:Nat ->Prop} {FX:Nat ->Bool} {w w':World} (h:ep P w w') (hP:∀g,P g ->FX g=false):Ext (tm FX w) (tm FX w'):=iY h (fun k _ hk=>by simp [hP k hk]) (fun _ _ h=>h)
theorem qK (FX:Nat ->Bool) (w:World):Ext (tm FX w) w:=sQ (P:=fun _=>False) (ep.refl _ _) (fun _ _ h=>h.elim)
def JL (FX:Nat ->Bool) (iv:lg) (k:Nat) (c:ij) (w:World) (e:Ending) (w':World):Prop:=∃v j,e= .returned (.tuple #[v, .map (some j)])/\gN (tm FX w') v c.body/\iv.js[k]?=some j/\Below w.heap.size w w'
def KL (X b off b2:Nat) (SX u16 u v:Value) (k:Nat) (w:World):Prop:=
 w.cell? ⟨X,12,none⟩=some SX/\w.cell? ⟨X,16,none⟩=some u16/\w.cell? ⟨b,off+k*2+1,none⟩=some u/\w.cell? ⟨b2,k,none⟩=some v
theorem BX (w:World) (FX:Nat ->Bool) (X:Nat) (iv:lg) (m:eI) (h:iM w FX X iv m) (k:Nat) (c:ij) (hc:m.eF[k]?=some c) (f:Int) (hf:f=((m.imports.length+k:Nat):Int)) (hk:m.imports.length+k <=100000):
  Calls prog 51 #[.pointer (some ⟨X,0,none⟩), .int .i64 f] w (JL FX iv k c w):=by
 subst hf;have N8:=(aG.1 hc).1;obtain⟨j,hj⟩:∃j,iv.js[k]?=some j:=⟨_,aq (by rw [h.len];exact N8)⟩;obtain⟨b,off,cap,u,Ph,NX,OS,hb,NA,hi⟩:=eD.at h.mod.2.2.2.2.2.2.1 hc;obtain⟨ai,ci,h1,-,hcim⟩:=h.is.2.1.sl;have hj2:=h.jumps.fT IH;obtain⟨b2,NR,Nr,h16,hcap2,hcm2,No,hcj⟩:=eA.at hj2 hj;obtain⟨g,OH,cur3,h16',-,-,-,-,-⟩:=h.jumps.open (by intro e;rw [e]at hj;simp at hj);have e1:=h16.symm.trans h16';injection e1 with e1 _ _;injection e1 with e1;injection e1 with e1 e2;subst e1 e2;have x1:w.cell? ⟨X,1,none⟩=some (.slice ai m.imports.length ci):=by rw [<- h1];exact h.jE.cell 1
 have x12:w.cell? ⟨X,12,none⟩=some (.slice (some ⟨b,off,none⟩) m.eF.length cap):=by rw [<- Ph];exact h.jE.cell 12
 have x16:w.cell? ⟨X,16,none⟩=some (.slice (some ⟨b2,0,none⟩) iv.js.length Nr):=by rw [<- h16];exact h.jE.cell 16
 have y1:w.cell? ⟨b,off+k*2+1,none⟩=some u.2:=(gm (NA 1 _ rfl)).2;have y2:w.cell? ⟨b2,k,none⟩=some (.map (some j)):=by
  have:=hcj 0 _ rfl
  rwa [bT,aW,aJ]at this
 obtain⟨au,cu,hue,-,-⟩:=eD.slice hi.1.2;have hS:KL X b off b2 (.slice (some ⟨b,off,none⟩) m.eF.length cap) (.slice (some ⟨b2,0,none⟩) iv.js.length Nr) (.slice au c.body.length cu) (.map (some j)) k w.drew:=⟨x12,x16,by rw [<- hue];exact y1,y2⟩;have HB:=V (show gN (tm FX w) (.slice au c.body.length cu) c.body by rw [<- hue];exact hi.1.2);have HJ:=V hj;have hkl2:k < iv.js.length:=(aG.1 hj).1;clear h hc hj NA hi hj2 hcj Ph h1 h16 h16' x12 x16 y1 y2 hue;go_enter func51,ntmps51;go_wp2_with fail;refine eB (KL X b off b2 (.slice (some ⟨b,off,none⟩) m.eF.length cap) (.slice (some ⟨b2,0,none⟩) iv.js.length Nr) (.slice au c.body.length cu) (.map (some j)) k) (up 0 18 []) (by kernel_rfl) (by kernel_rfl) hS ?_;clear hS;iterate 18 (first | (apply sk rfl rfl;simp only [pt]) | (apply eo rfl rfl rfl;·(rintro w' ⟨t0,t1,t2,t3⟩;go_wp2;exact⟨rfl,rfl,rfl⟩)))
 refine eW ?_;refine aA ?_;go_wp2
 go_ret2
 have hb:=(an w.heap.size w).drew;exact⟨_,j,rfl,eD.ext HB.out (ka hb) (fun _ _ h=>h.ext (ka hb)),HJ.out,hb⟩
theorem jw (w:World) (FX:Nat ->Bool) (X:Nat) (iv:lg) (m:eI) (h:iM w FX X iv m) (f:Int):
  Calls prog 44 #[.pointer (some ⟨X,0,none⟩), .int .i64 f] w (fX (.bool (km m f)) w):=by
 obtain⟨ai,ci,h1,-,hcim⟩:=h.is.2.1.sl;have x1:w.cell? ⟨X,1,none⟩=some (.slice ai m.imports.length ci):=by rw [<- h1];exact h.jE.cell 1
 clear h h1;by_cases q0:f < 0
 ·have f0:decide (0 <=f)=false:=aw (by omega)
  have f1:decide (f < 0)=true:=ay q0;have HR:=V (show km m f=false by simp [km,f0]);clear q0;go_enter func44,ntmps44;go_wp2;go_ret;exact⟨by rw [HR.out];rfl,an _ _⟩
 have f0:decide (0 <=f)=true:=ay (by omega);have f1:decide (f < 0)=false:=aw q0;by_cases q:f < m.imports.length
 ·have f2:decide (f < (m.imports.length:Int))=true:=ay q
  have HR:=V (show km m f=true by simp [km,f0,f2]);clear q q0;go_enter func44,ntmps44;go_wp2;go_ret;exact⟨by rw [HR.out];rfl,an _ _⟩
 ·have f2:decide (f < (m.imports.length:Int))=false:=aw q
  have HR:=V (show km m f=false by simp [km,f0,f2]);clear q q0;go_enter func44,ntmps44;go_wp2;go_ret;exact⟨by rw [HR.out];rfl,an _ _⟩
def Dx (FX:Nat ->Bool) (t:gC) (w:World) (e:Ending) (w':World):Prop:=∃u1 u2,e= .returned (.tuple #[.agg #[u1,u2], .bool true])/\eA 1 fk (tm FX w') u1 t.params/\eA 1 fk (tm FX w') u2 t.results/\Below w.heap.size w w'
def vY (X b off bt On ti:Nat) (v0 v1 v2 u1 u2:Value) (n:Int) (w:World):Prop:=
 w.cell? ⟨X,0,none⟩=some v0/\w.cell? ⟨X,1,none⟩=some v1/\w.cell? ⟨X,2,none⟩=some v2/\w.cell? ⟨b,off,none⟩=some (.int .i64 n)/\w.cell? ⟨bt,On+ti*2,none⟩=some u1/\w.cell? ⟨bt,On+ti*2+1,none⟩=some u2
theorem vY.keeps {P:Nat ->Prop} {X b off bt On ti:Nat} {v0 v1 v2 u1 u2:Value} {n:Int} {w w':World} (h:vY X b off bt On ti v0 v1 v2 u1 u2 n w) (hk:ep P w w') (hP:∀g,P g ->w.heap.size <=g\/¬ (g=X\/g=b\/g=bt)):vY X b off bt On ti v0 v1 v2 u1 u2 n w':=by
 obtain⟨h1,h2,h3,h4,h5,h6⟩:=h;have key:∀{a:Addr} {v:Value},w.cell? a=some v ->(a.block=X\/a.block=b\/a.block=bt) ->w'.cell? a=some v:=fun ha hb=>by
  have hl:=aO w _ ha;exact(hk.cell hl (fun hp=>(hP _ hp).elim (fun h=>by omega) (fun h=>h hb))).trans ha
 exact⟨key h1 (.inl rfl),key h2 (.inl rfl),key h3 (.inl rfl),key h4 (.inr (.inl rfl)),key h5 (.inr (.inr rfl)),key h6 (.inr (.inr rfl))⟩
theorem FL (w:World) (FX:Nat ->Bool) (X:Nat) (iv:lg) (m:eI) (h:iM w FX X iv m) (i ti:Nat) (x:kj) (t:gC) (hx:m.imports[i]?=some x) (hti:x.type=(ti:Int)) (ht:m.types[ti]?=some t) (f:Int) (hf:f=(i:Int)) (hk:m.imports.length+m.funcs.length <=100000):
  Calls prog 43 #[.pointer (some ⟨X,0,none⟩), .int .i64 f] w (Dx FX t w):=by
 subst hf;have hil:=(aG.1 hx).1;obtain⟨bt,On,Rl,ut,h0,hcapt,hcmt,hbt,PI,Ca⟩:=eD.at h.mod.1 ht;obtain⟨ap,cp,hpe,-,-⟩:=Ca.1.1.sl;obtain⟨ar,cr,hre,-,-⟩:=Ca.1.2.sl;have htl:=(aG.1 ht).1;have x0:w.cell? ⟨X,0,none⟩=some (.slice (some ⟨bt,On,none⟩) m.types.length Rl):=by rw [<- h0];exact h.jE.cell 0
 have y1:w.cell? ⟨bt,On+ti*2,none⟩=some (.slice ap t.params.length cp):=by rw [<- hpe];exact(gm (PI 0 _ rfl)).2
 have y2:w.cell? ⟨bt,On+ti*2+1,none⟩=some (.slice ar t.results.length cr):=by rw [<- hre];exact(gm (PI 1 _ rfl)).2
 have HP:=V (show eA 1 fk (tm FX w) (.slice ap t.params.length cp) t.params by rw [<- hpe];exact Ca.1.1);have HR:=V (show eA 1 fk (tm FX w) (.slice ar t.results.length cr) t.results by rw [<- hre];exact Ca.1.2);have S2:=h.jE.lt;rw [iz]at hbt;clear PI Ca hpe hre h0;obtain⟨b,off,ci,h1,hci,hcim,N2,NA⟩:=eA.at h.is.2.1 hx;obtain⟨af,cf,h2,Sj,hcfm⟩:=h.is.2.2.1.sl;have x1:w.cell? ⟨X,1,none⟩=some (.slice (some ⟨b,off,none⟩) m.imports.length ci):=by rw [<- h1];exact h.jE.cell 1
 have x2:w.cell? ⟨X,2,none⟩=some (.slice af m.funcs.length cf):=by rw [<- h2];exact h.jE.cell 2
 have y0:w.cell? ⟨b,off+i*3+2,none⟩=some (.int .i64 (ti:Int)):=by
  have:=NA 2 _ rfl;rw [<- hti];exact this
 have hS:vY X b (off+i*3+2) bt On ti (.slice (some ⟨bt,On,none⟩) m.types.length Rl) (.slice (some ⟨b,off,none⟩) m.imports.length ci) (.slice af m.funcs.length cf) (.slice ap t.params.length cp) (.slice ar t.results.length cr) (ti:Int) w:=⟨x0,x1,x2,y0,y1,y2⟩;have HN:=V (show X < w.heap.size/\b < w.heap.size/\bt < w.heap.size from⟨S2,N2,hbt⟩);have HIM:=V (show km m (i:Int)=true by simp [km];omega);have f1:decide (((i:Nat):Int) < 0)=false:=aw (by omega);have f2:decide ((m.imports.length:Int)+(m.funcs.length:Int) <=(i:Int))=false:=aw (by omega);have f3:decide (m.imports.length+m.funcs.length <=i)=false:=aw (by omega);clear x0 x1 x2 y0 y1 y2 NA h1 h2 hx ht hti N2 S2 hbt;have NG:=(an w.heap.size w).alloc (ag _) (.cells #[.slice none 0 0, .slice none 0 0] 69);have HX:=V (eS.new w #[.slice none 0 0, .slice none 0 0] 69).drew;have HB:=V NG.drew;have HI:=V (jw (w.alloc (.cells #[.slice none 0 0, .slice none 0 0] 69)).drew FX X iv m (h.below NG.drew) ((i:Nat):Int));have hS1:=hS.keeps (ep.et (S:=fun _=>False) NG.drew) (fun _ h=>h.elim);clear NG hS h;go_enter func43,ntmps43;go_wp2_with fail;refine eB (vY X b (off+i*3+2) bt On ti (.slice (some ⟨bt,On,none⟩) m.types.length Rl) (.slice (some ⟨b,off,none⟩) m.imports.length ci) (.slice af m.funcs.length cf) (.slice ap t.params.length cp) (.slice ar t.results.length cr) (ti:Int)) (up 0 23 []) (by kernel_rfl) (by kernel_rfl) hS1 ?_;iterate 23 (first | (apply sk rfl rfl;simp only [pt]) | (apply eo rfl rfl rfl;·(rintro w' ⟨t0,t1,t2,t3,t4,t5⟩;go_wp2;exact⟨rfl,rfl,rfl⟩)))
 refine eW ?_;refine aA ?_;generalize(w.alloc (.cells #[.slice none 0 0, .slice none 0 0] 69)).drew=w1 at HX HB HI hS1⊢;go_wp2_with fail;refine(HI.out).mono ?_;rintro e w2 ⟨rfl,hb⟩;rw [HIM.out];replace HX:=V (HX.out.below hb HX.out.lt);replace HB:=V (HB.out.trans (hb.mono HB.out.size));have Td:vY X b (off+i*3+2) bt On ti (.slice (some ⟨bt,On,none⟩) m.types.length Rl) (.slice (some ⟨b,off,none⟩) m.imports.length ci) (.slice af m.funcs.length cf) (.slice ap t.params.length cp) (.slice ar t.results.length cr) (ti:Int) w2.drew:=(hS1.keeps (ep.et (S:=fun _=>False) hb) (fun _ h=>h.elim)).keeps (ep.et (S:=fun _=>False) (an _ _).drew) (fun _ h=>h.elim);have HXD:=V HX.out.drew;have Ss:=V HB.out.drew;clear hb hS1 HI f1 f2 f3;go_wp2_with fail;refine eB (vY X b (off+i*3+2) bt On ti (.slice (some ⟨bt,On,none⟩) m.types.length Rl) (.slice (some ⟨b,off,none⟩) m.imports.length ci) (.slice af m.funcs.length cf) (.slice ap t.params.length cp) (.slice ar t.results.length cr) (ti:Int)) (up 0 16 ((16,false)::(17,true)::[])) (by kernel_rfl) (by kernel_rfl) Td ?_;generalize w2.drew=w3 at HXD Ss Td⊢;iterate 16 (first | (apply sk rfl rfl;simp only [pt]) | (apply eo rfl rfl rfl;·(rintro w' ⟨t0,t1,t2,t3,t4,t5⟩;go_wp2;exact⟨rfl,rfl,rfl⟩)))
 refine ew rfl rfl ?_;obtain⟨x0,x1,z0,z1⟩:=HXD.out.two;go_wp2_with fail;have Np:=fQ w3 w.heap.size (.slice ap t.params.length cp) (.slice ar t.results.length cr);refine⟨Td.keeps Np (fun g hg=> .inr (by have:=HN.out;omega)),?_⟩;have Qj:=HXD.out.nC (.slice ap t.params.length cp) (.slice ar t.results.length cr);have HL:=V Qj.lz;have Pm:=V (Ss.out.trans (Np.below Ss.out.size (fun i hi=>by omega)));clear Np Qj x0 x1 z0 z1 Td;iterate 1 (first | (apply sk rfl rfl;simp only [pt]) | (apply eo rfl rfl rfl;·(rintro w' ⟨t0,t1,t2,t3,t4,t5⟩;go_wp2;exact⟨rfl,rfl,rfl⟩)))
 refine eW ?_;refine aA ?_;go_wp2_with fail;refine aF (fy rfl _ _ rfl HL.out) rfl ?_;exact⟨_,_,rfl,HP.out.ext (ka Pm.out),HR.out.ext (ka Pm.out),Pm.out⟩
theorem Gv (w:World) (FX:Nat ->Bool) (X:Nat) (iv:lg) (m:eI) (h:iM w FX X iv m) (i ti:Nat) (t:gC) (hx:m.funcs[i]?=some (ti:Int)) (ht:m.types[ti]?=some t) (f:Int) (hf:f=((m.imports.length+i:Nat):Int)) (hk:m.imports.length+m.funcs.length <=100000):
  Calls prog 43 #[.pointer (some ⟨X,0,none⟩), .int .i64 f] w (Dx FX t w):=by
 subst hf;have hil:=(aG.1 hx).1;obtain⟨bt,On,Rl,ut,h0,hcapt,hcmt,hbt,PI,Ca⟩:=eD.at h.mod.1 ht;obtain⟨ap,cp,hpe,-,-⟩:=Ca.1.1.sl;obtain⟨ar,cr,hre,-,-⟩:=Ca.1.2.sl;have htl:=(aG.1 ht).1;have x0:w.cell? ⟨X,0,none⟩=some (.slice (some ⟨bt,On,none⟩) m.types.length Rl):=by rw [<- h0];exact h.jE.cell 0
 have y1:w.cell? ⟨bt,On+ti*2,none⟩=some (.slice ap t.params.length cp):=by rw [<- hpe];exact(gm (PI 0 _ rfl)).2
 have y2:w.cell? ⟨bt,On+ti*2+1,none⟩=some (.slice ar t.results.length cr):=by rw [<- hre];exact(gm (PI 1 _ rfl)).2
 have HP:=V (show eA 1 fk (tm FX w) (.slice ap t.params.length cp) t.params by rw [<- hpe];exact Ca.1.1);have HR:=V (show eA 1 fk (tm FX w) (.slice ar t.results.length cr) t.results by rw [<- hre];exact Ca.1.2);have S2:=h.jE.lt;rw [iz]at hbt;clear PI Ca hpe hre h0;obtain⟨b,off,cf,h2,Sj,hcfm,N2,NA⟩:=eA.at h.is.2.2.1 hx;obtain⟨ai,ci,h1,hci,hcim⟩:=h.is.2.1.sl;have x1:w.cell? ⟨X,1,none⟩=some (.slice ai m.imports.length ci):=by rw [<- h1];exact h.jE.cell 1
 have x2:w.cell? ⟨X,2,none⟩=some (.slice (some ⟨b,off,none⟩) m.funcs.length cf):=by rw [<- h2];exact h.jE.cell 2
 have y0:w.cell? ⟨b,off+i,none⟩=some (.int .i64 (ti:Int)):=by
  have:=NA 0 _ rfl
  rwa [aW,aJ]at this
 have hS:vY X b (off+i) bt On ti (.slice (some ⟨bt,On,none⟩) m.types.length Rl) (.slice ai m.imports.length ci) (.slice (some ⟨b,off,none⟩) m.funcs.length cf) (.slice ap t.params.length cp) (.slice ar t.results.length cr) (ti:Int) w:=⟨x0,x1,x2,y0,y1,y2⟩;have HN:=V (show X < w.heap.size/\b < w.heap.size/\bt < w.heap.size from⟨S2,N2,hbt⟩);have HIM:=V (show km m ((m.imports.length+i:Nat):Int)=false by simp [km];omega);have f1:decide (((m.imports.length+i:Nat):Int) < 0)=false:=aw (by omega);have f2:decide ((m.imports.length:Int)+(m.funcs.length:Int) <=(m.imports.length:Int)+(i:Int))=false:=aw (by omega);have f3:decide (m.imports.length+m.funcs.length <=m.imports.length+i)=false:=aw (by omega);clear x0 x1 x2 y0 y1 y2 NA h1 h2 hx ht N2 S2 hbt;have NG:=(an w.heap.size w).alloc (ag _) (.cells #[.slice none 0 0, .slice none 0 0] 69);have HX:=V (eS.new w #[.slice none 0 0, .slice none 0 0] 69).drew;have HB:=V NG.drew;have HI:=V (jw (w.alloc (.cells #[.slice none 0 0, .slice none 0 0] 69)).drew FX X iv m (h.below NG.drew) ((m.imports.length+i:Nat):Int));have hS1:=hS.keeps (ep.et (S:=fun _=>False) NG.drew) (fun _ h=>h.elim);clear NG hS h;go_enter func43,ntmps43;go_wp2_with fail;refine eB (vY X b (off+i) bt On ti (.slice (some ⟨bt,On,none⟩) m.types.length Rl) (.slice ai m.imports.length ci) (.slice (some ⟨b,off,none⟩) m.funcs.length cf) (.slice ap t.params.length cp) (.slice ar t.results.length cr) (ti:Int)) (up 0 23 []) (by kernel_rfl) (by kernel_rfl) hS1 ?_;iterate 23 (first | (apply sk rfl rfl;simp only [pt]) | (apply eo rfl rfl rfl;·(rintro w' ⟨t0,t1,t2,t3,t4,t5⟩;go_wp2;exact⟨rfl,rfl,rfl⟩)))
 refine eW ?_;refine aA ?_;generalize(w.alloc (.cells #[.slice none 0 0, .slice none 0 0] 69)).drew=w1 at HX HB HI hS1⊢;go_wp2_with fail;refine(HI.out).mono ?_;rintro e w2 ⟨rfl,hb⟩;rw [HIM.out];replace HX:=V (HX.out.below hb HX.out.lt);replace HB:=V (HB.out.trans (hb.mono HB.out.size));have Td:vY X b (off+i) bt On ti (.slice (some ⟨bt,On,none⟩) m.types.length Rl) (.slice ai m.imports.length ci) (.slice (some ⟨b,off,none⟩) m.funcs.length cf) (.slice ap t.params.length cp) (.slice ar t.results.length cr) (ti:Int) w2.drew:=(hS1.keeps (ep.et (S:=fun _=>False) hb) (fun _ h=>h.elim)).keeps (ep.et (S:=fun _=>False) (an _ _).drew) (fun _ h=>h.elim);have HXD:=V HX.out.drew;have Ss:=V HB.out.drew;clear hb hS1 HI f1 f2 f3;go_wp2_with fail;refine eB (vY X b (off+i) bt On ti (.slice (some ⟨bt,On,none⟩) m.types.length Rl) (.slice ai m.imports.length ci) (.slice (some ⟨b,off,none⟩) m.funcs.length cf) (.slice ap t.params.length cp) (.slice ar t.results.length cr) (ti:Int)) (up 0 22 ((22,false)::(23,true)::[])) (by kernel_rfl) (by kernel_rfl) Td ?_;generalize w2.drew=w3 at HXD Ss Td⊢;iterate 22 (first | (apply sk rfl rfl;simp only [pt]) | (apply eo rfl rfl rfl;·(rintro w' ⟨t0,t1,t2,t3,t4,t5⟩;go_wp2;exact⟨rfl,rfl,rfl⟩)))
 refine ew rfl rfl ?_;obtain⟨x0,x1,z0,z1⟩:=HXD.out.two;go_wp2_with fail;have Np:=fQ w3 w.heap.size (.slice ap t.params.length cp) (.slice ar t.results.length cr);refine⟨Td.keeps Np (fun g hg=> .inr (by have:=HN.out;omega)),?_⟩;have Qj:=HXD.out.nC (.slice ap t.params.length cp) (.slice ar t.results.length cr);have HL:=V Qj.lz;have Pm:=V (Ss.out.trans (Np.below Ss.out.size (fun i hi=>by omega)));clear Np Qj x0 x1 z0 z1 Td;iterate 1 (first | (apply sk rfl rfl;simp only [pt]) | (apply eo rfl rfl rfl;·(rintro w' ⟨t0,t1,t2,t3,t4,t5⟩;go_wp2;exact⟨rfl,rfl,rfl⟩)))
 refine eW ?_;refine aA ?_;go_wp2_with fail;refine aF (fy rfl _ _ rfl HL.out) rfl ?_;exact⟨_,_,rfl,HP.out.ext (ka Pm.out),HR.out.ext (ka Pm.out),Pm.out⟩
def gX:zK ->List jI ->Option zK
 | s,[]=>some s
 | s,x::l=>(iZ s x.off x.funcs).bind fun s'=>gX s' l
theorem qQ:∀(s:zK) (l:List jI) (x:jI),gX s (l++[x])=(gX s l).bind fun s'=>iZ s' x.off x.funcs
 | s,[],x=>by simp [gX]
 | s,y::l,x=>by
  simp only [bH,gX];cases iZ s y.off y.funcs with
  | none=>rfl
  | some s'=>simp [qQ s' l x]
theorem qY:∀{s:zK} {l:List jI} {i:Nat},gX s (l.take i)=none ->gX s l=none
 | s,[],i,h=>by simpa using h
 | s,x::l,0,h=>by simp [gX]at h
 | s,x::l,i+1,h=>by
  simp only [List.take_succ_cons,gX]at h⊢;cases hx:iZ s x.off x.funcs with
  | none=>rfl
  | some s'=>
   rw [hx]at h;exact qY (s:=s') (l:=l) (i:=i) h
def Em (m:eI) (w:World) (e:Ending) (w':World):Prop:=
 Below w.heap.size w w'/\((iT m≠-1/\e= .returned (.tuple #[.pointer none, .int .i64 6]))\/(iT m= -1/\gX (gP m) m.elems=none/\e= .returned (.tuple #[.pointer none, .int .i64 3]))\/
  ∃X FX FM FSs iv sp,iT m= -1/\gX (gP m) m.elems=some sp/\e= .returned (.tuple #[.pointer (some ⟨X,0,none⟩), .int .i64 0])/\iM w' FX X iv m/\zu w' FM iv.vm (ju m.mem)/\Nf w' FSs iv.vs sp/\
   (∀g,FX g=true\/FM g=true\/FSs g=true ->w.heap.size <=g/\g < w'.heap.size)/\∀g,(FX g=true ->FM g=false/\FSs g=false)/\(FM g=true ->FSs g=false))
structure tX (w0:World) (m:eI) (w:World) (X:Nat) (u:eT) (vm:Value) (Xs a s3 s4 s5:Nat) (sp:zK):Prop where
 below:Below w0.heap.size w0 w
 ord:w0.heap.size <=a/\a <=s3/\s3 <=s4/\s4 <=s5/\X=s5/\s5 < w.heap.size
 mod:eG (mask (fun k=> !sL a s3 k) w) u m
 jE:eS w X (uz ⟨u,vm, .pointer (some ⟨Xs,0,none⟩), .slice none 0 0,[]⟩ m) 102
 mem:zu w (sL s3 s4) vm (ju m.mem)
 space:oE w s4 Xs sp
 xs:s4 <=Xs/\Xs < s5
theorem tX.keeps {w0:World} {m:eI} {w w':World} {X:Nat} {u:eT} {vm:Value} {Xs a s3 s4 s5:Nat} {sp sp':zK} {P:Nat ->Prop} (h:tX w0 m w X u vm Xs a s3 s4 s5 sp) (hk:ep P w w') (hP:∀g,P g ->s4 <=g/\¬ g=X) (hs:oE w' s4 Xs sp'):tX w0 m w' X u vm Xs a s3 s4 s5 sp':=by
 obtain⟨o1,o2,o3,o4,o5,o6⟩:=h.ord;refine⟨h.below.trans (hk.below h.below.size (fun i hi=>by have:=(hP i hi).1;omega)),⟨o1,o2,o3,o4,o5,bp o6 hk.size⟩,h.mod.ext (iY hk (fun k _ hp=>?_) (fun k _ hp=>hp)),h.jE.keeps hk (fun hx=>(hP X hx).2 rfl),h.mem.keeps hk (fun g hg=>?_),hs,h.xs⟩
 ·have:=(hP k hp).1
  simp [sL];omega
 ·have:=(hP g hg).1
  simp [sL];omega
theorem JY {w:World} {B:Nat} {p:Value} {e:Option Ad} (h:LP w B p e):zu w (sL B w.heap.size) p e:=by
 rcases h with h | ⟨x,X,h1,h2,⟨v,v',h3,h4,h5⟩,h6⟩
 ·exact .inl h
 ·exact .inr ⟨x,X,v,v',h1,h2,h3,h4.lower (bg _),h5.lower (bg _),lK.2 ⟨h6,h3.lt⟩,fun g hg=>lK.2 (eM h4 hg),fun g hg=>lK.2 (eM h5 hg)⟩
theorem oE.keeps {P:Nat ->Prop} {w w':World} {B X:Nat} {e:zK} (h:oE w B X e) (hX:B <=X) (hk:ep P w w') (hP:∀g,P g ->g < B\/w.heap.size <=g):oE w' B X e:=by
 obtain⟨v,v',h1,h2,h3⟩:=h;have:=h1.lt;exact⟨v,v',h1.keeps hk (fun hp=>by have:=hP X hp;omega),h2.keeps hk (fun g hg hp=>by have:=eM h2 hg;have:=hP g hp;omega),h3.keeps hk (fun g hg hp=>by have:=eM h3 hg;have:=hP g hp;omega)⟩
def Fe (FM:Nat ->Bool) (p:Value) (e:Option Ad) (w:World) (en:Ending) (w':World):Prop:=en= .returned (.tuple #[])/\zu w' FM p (e.map fun x=>{x with DH:=[]})/\ep (fun i=>FM i=true) w w'
theorem CB (w:World) (FM:Nat ->Bool) (p:Value) (e:Option Ad) (h:zu w FM p e):Calls prog 41 #[p] w (Fe FM p e w):=by
 rcases h with⟨rfl,rfl⟩ | ⟨x,X,v,v',rfl,rfl,hx,hb,hd,h1,h2,h3⟩
 ·go_enter func41,ntmps41
  go_wp2
  go_end0
  exact⟨rfl, .inl ⟨rfl,rfl⟩,ep.refl _ _⟩
 ·have x2:w.cell? ⟨X,2,none⟩=some v':=hx.cell 2
  have z2:=hx.free 2;have HX:=V hx;have HB:=V hb;have H1:=V h1;have H2:=V h2;clear hb hd hx h1 h2 h3;go_enter func41,ntmps41;go_wp2
  go_end0
  have Np:=eE w X 2 (.slice none 0 0);exact⟨rfl, .inr ⟨_,X,_,_,rfl,rfl,HX.out.set 2 (.slice none 0 0),HB.out.keeps Np (eC.gF HB.out HX.out (by decide)),ei.nil _ _,H1.out,H2.out,fun g hg=>by simp [eO,Value.ownBlock]at hg⟩,Np.mono (fun i hi=>by subst hi;exact H1.out)⟩
theorem yZ (l:gl):(ju l).map (fun x=>{x with DH:=[]})=ju l:=by
 unfold ju;split <;>rfl
theorem oE.Gp {w:World} {B X:Nat} {xs:Array Value} {t:TypeId} (hx:eS w X xs t) (ht:t≠3):¬ Ib w B X:=fun⟨_,_,hy⟩=>ht (hx.uniq hy)
theorem tX.clean {w0:World} {m:eI} {w w':World} {X:Nat} {u:eT} {vm:Value} {Xs a s3 s4 s5:Nat} {sp:zK} (h:tX w0 m w X u vm Xs a s3 s4 s5 sp) (hk:ep (fun i=>sL s3 s4 i=true) w w') (hm:zu w' (sL s3 s4) vm (ju m.mem)):tX w0 m w' X u vm Xs a s3 s4 s5 sp:=by
 obtain⟨o1,o2,o3,o4,o5,o6⟩:=h.ord;refine⟨h.below.trans (hk.below h.below.size (fun i hi=>by have:=lK.1 hi;omega)),⟨o1,o2,o3,o4,o5,bp o6 hk.size⟩,h.mod.ext (iY hk (fun k _ hp=>?_) (fun k _ hp=>hp)),h.jE.keeps hk (fun hx=>by have:=lK.1 hx;omega),hm,h.space.keeps h.xs.1 hk (fun g hg=> .inl (lK.1 hg).2),h.xs⟩;have:=lK.1 hp;simp [sL];omega
theorem xq {l:List fa} {i:Nat} {x:fa} {st PX:List kG × List Nat} (h:gx l i x st=some PX) (hp:∀b∈st.1,0 <=b.pos/\b.pos <=i):∀b∈PX.1,0 <=b.pos/\b.pos <=i:=by
 have Q8:∀(k:Nat) (b b':kG),st.1[k]?=some b ->b'.pos=b.pos ->∀y∈st.1.set k b',0 <=y.pos/\y.pos <=i:=by
  intro k b b' hb he y hy;rcases dR hy with h1 | h1
  ·exact hp y h1
  ·rw [h1,he]
   exact hp b (aN hb)
 unfold gx at h;split at h
 ·split at h
  ·cases h
  ·injection h with h
   subst h;intro b hb;rcases bU.1 hb with h1 | h1
   ·exact hp b h1
   ·rw [aV.1 h1]
    exact⟨by simp,by simp⟩
 ·split at h
  ·injection h with h
   subst h;exact hp
  ·split at h
   ·cases h
   ·rename_i k hk
    split at h
    ·cases h
    ·rename_i b hb
     split at h
     ·injection h with h
      subst h;exact Q8 k b _ hb rfl
     ·split at h
      ·cases h
      ·split at h
       ·cases h
       ·injection h with h
        subst h;exact Q8 k b _ hb rfl
theorem tW (l:List fa):∀(rest:List fa) (i:Nat) (st PX:List kG × List Nat),gL l rest i st=some PX ->(∀b∈st.1,0 <=b.pos/\b.pos <=i) ->∀b∈PX.1,0 <=b.pos/\b.pos <=i+rest.length
 | [],i,st,PX,h,hp=>by
  simp only [gL,aS]at h;subst h;simpa using hp
 | x::rest,i,st,PX,h,hp=>by
  simp only [gL]at h;cases hs:gx l i x st with
  | none=>rw [hs]at h;simp at h
  | some TB=>
   rw [hs,ao]at h;have h1:=xq hs hp;intro b hb;have:=tW l rest (i+1) TB PX h (fun b hb=>by have:=h1 b hb;omega) b hb;rw [aD];omega
theorem BF {l:List fa} {bs:List kG} (h:fM l=some bs):∀b∈bs,0 <=b.pos/\b.pos <=300:=by
 unfold fM at h;split at h
 ·cases h
 ·rename_i hl
  cases hg:gL l l 0 ([],[])with
  | none=>rw [hg]at h;simp at h
  | some st=>
   rw [hg,ao]at h;split at h
   ·injection h with h
    subst h;intro b hb;have:=tW l l 0 _ _ hg (by simp) b hb;omega
   ·cases h
theorem gr.new (w:World):gr (w.alloc (.map #[] 0)) w.heap.size []:=⟨0,ag _,World.ownsMap_made _ _ _ _⟩
theorem BR {w w':World} {j:Nat} (h:w.grownBy w' (some j)):ep (fun g=>g=j) w w':=⟨h.os,h.tape,h.output,h.size,fun k hk hn=>h.block k hk (fun e=>hn (by injection e))⟩
theorem Et:(prog.info? 112).map (fun i=>(i.zero,i.size,i.bytes))=some (some (.map none),1,8):=by kernel_rfl
structure xW (hi:Nat) (w:World) (X:Nat) (u:eT) (vm vs:Value) (m:eI) (vj:Value) (js:List Nat):Prop where
 jE:eS w X (uz ⟨u,vm,vs,vj,js⟩ m) 102
 row:ei 112 1 Ao w hi vj js
 maps:∀(i j:Nat) (c:ij),js[i]?=some j ->m.eF[i]?=some c ->gr w j (o8 c)/\hi <=j
theorem gr.gF {w:World} {j X:Nat} {l:List kG} {xs:Array Value} {t:TypeId} (h:gr w j l) (hx:eS w X xs t):j≠X:=by
 obtain⟨_,_,es,clock,hb,_⟩:=h;intro e;subst e;have:=hx.symm.trans hb;injection this with this;cases this
theorem xW.more {hi:Nat} {w w1 w2 w3:World} {X:Nat} {u:eT} {vm vs:Value} {m:eI} {vj:Value} {js:List Nat} {j:Nat} {c:ij} {a2:Option Addr} {n2 c2:Nat} (h:xW hi w X u vm vs m vj js) (hb:Below w.heap.size w w1) (hj1:w.heap.size <=j) (hk:ep (fun g=>g=j) w1 w2) (hc:m.eF[js.length]?=some c) (hjm:gr w2 j (o8 c)) (hhi:hi <=w.heap.size)
  (ho:ei 112 1 Ao w3 hi (.slice a2 n2 c2) (js++[j])) (Oo:ep (eO vj) w2 w3):xW hi (w3.setCell ⟨X,16,none⟩ (.slice a2 n2 c2)) X u vm vs m (.slice a2 n2 c2) (js++[j]):=by
 have S2:=h.jE.lt;have hXj:¬ X=j:=by omega
 have Qs:=(h.jE.below hb S2).keeps hk hXj;have SM:ei 112 1 Ao w2 hi vj js:=(h.row.below hb).keeps hk (fun g hg e=>by have:=(eM h.row hg).2;omega);have hx3:=Qs.keeps Oo (fun hg=>ei.gF SM Qs (by decide) X hg rfl);have Np:=eE w3 X 16 (.slice a2 n2 c2);have key:∀(j':Nat) (l:List kG),gr w2 j' l ->gr (w3.setCell ⟨X,16,none⟩ (.slice a2 n2 c2)) j' l:=fun j' l g=>by
  have g3:=g.keeps Oo (fun hg=>by
   obtain⟨cur,hcur⟩:=SM.has hg;exact g.gF hcur rfl)
  exact g3.keeps Np (g3.gF hx3)
 refine⟨?_,ho.keeps Np (ei.gF ho hx3 (by decide)),fun i j' c' hj' OL=>?_⟩
 ·have:=hx3.set 16 (.slice a2 n2 c2)
  simpa [uz] using this
 ·by_cases q:i < js.length
  ·rw [bD q]at hj'
   obtain⟨g1,g2⟩:=h.maps i j' c' hj' OL;exact⟨key j' _ ((g1.below hb).keeps hk (by have:=g1.lt;omega)),g2⟩
  ·have hi2:=(aG.1 hj').1
   rw [ah,aB]at hi2;obtain rfl:i=js.length:=by omega
   rw [bo (ag _),Nat.sub_self]at hj';simp only [aK,aS]at hj';subst hj';rw [hc]at OL;injection OL with OL;subst OL;exact⟨key j _ hjm,by omega⟩
theorem mD (m:eI) (u:eT) (w:World) (hm:eG w u m) (hs:m.words) (he:∀c∈m.eF,∀x∈c.body,x.mW) (hn:m.imports.length+m.funcs.length <=1000000) (hd:m.eP=[]):Calls prog 21 #[.agg (u.cells m)] w (Em m w):=by
 have HI:=V hm;have Tk:=V hs;have HE:=V he;have HND:=V hd;obtain⟨a0,c0,a1,c1,a2,c2,a3,c3,a4,c4,a5,c5,a6,c6,a7,c7,rfl⟩:=eG.open hm;simp only [eT.cells];clear hm hs he hd;have HX:=V (eS.new w #[.slice a0 m.types.length c0, .slice a1 m.imports.length c1, .slice a2 m.funcs.length c2, .bool m.table.has, .int .i64 m.table.min, .int .i64 m.table.max, .bool m.mem.has, .int .i64 m.mem.min, .int .i64 m.mem.max, .slice a3 m.globals.length c3, .slice a4 m.ey.length c4, .slice a5 m.elems.length c5, .slice a6 m.eF.length c6, .slice a7 m.eP.length c7] 35);have HS:=V ((an w.heap.size w).alloc (ag _) (.cells #[.slice a0 m.types.length c0, .slice a1 m.imports.length c1, .slice a2 m.funcs.length c2, .bool m.table.has, .int .i64 m.table.min, .int .i64 m.table.max, .bool m.mem.has, .int .i64 m.mem.min, .int .i64 m.mem.max, .slice a3 m.globals.length c3, .slice a4 m.ey.length c4, .slice a5 m.elems.length c5, .slice a6 m.eF.length c6, .slice a7 m.eP.length c7] 35));go_enter func21,ntmps21;go_wp2_with fail;refine(qD m ⟨.slice a0 m.types.length c0, .slice a1 m.imports.length c1, .slice a2 m.funcs.length c2, .slice a3 m.globals.length c3, .slice a4 m.ey.length c4, .slice a5 m.elems.length c5, .slice a6 m.eF.length c6, .slice a7 m.eP.length c7⟩ _ (eG.below HI.out HS.out) Tk.out hn HE.out).mono ?_;rintro e w1 ⟨rfl,hb⟩;replace HX:=V (HX.out.below hb HX.out.lt);replace HS:=V (HS.out.trans (hb.mono HS.out.size));clear hb;by_cases hv:iT m= -1;rotate_left
 ·have f1:decide (iT m= -1)=false:=aw hv
  have HV:=V hv;rw [f1];clear hv;go_wp2
  go_ret2
  exact⟨HS.out, .inl ⟨HV.out,rfl⟩⟩
 have OJ:m.may:=by
  by_cases q:m.may
  ·exact q
  ·exfalso
   rw [iT,aE (aw q)]at hv;exact absurd hv (by decide)
 have O6:=V OJ;have HV:=V hv;have htb:m.table.has=true ->0 <=m.table.min/\m.table.min <=1000:=fun h=>by
  have h1:=OJ.1.2.2.1;unfold gl.may at h1;simp only [h]at h1;simp at h1;omega
 have hgl:m.globals.length <=1000:=by
  have h1:=OJ.1.2.1.2.1.1;omega
 have hel16:m.elems.length <=16:=OJ.1.2.1.2.2.2.1.1;have hco16:m.eF.length <=16:=OJ.1.1.2.1;have Rz:=V htb;rw [hv];clear hv OJ htb;have ht:=HX.out.drew.mod;go_wp2_with fail;refine eB (fun w'=>w'.cell? ⟨w.heap.size,0,none⟩=some (.slice a0 m.types.length c0)/\w'.cell? ⟨w.heap.size,1,none⟩=some (.slice a1 m.imports.length c1)/\w'.cell? ⟨w.heap.size,2,none⟩=some (.slice a2 m.funcs.length c2)/\w'.cell? ⟨w.heap.size,3,none⟩=some (.bool m.table.has)/\w'.cell? ⟨w.heap.size,4,none⟩=some (.int .i64 m.table.min)/\w'.cell? ⟨w.heap.size,5,none⟩=some (.int .i64 m.table.max)/\w'.cell? ⟨w.heap.size,6,none⟩=some (.bool m.mem.has)/\w'.cell? ⟨w.heap.size,7,none⟩=some (.int .i64 m.mem.min)/\w'.cell? ⟨w.heap.size,8,none⟩=some (.int .i64 m.mem.max)/\w'.cell? ⟨w.heap.size,9,none⟩=some (.slice a3 m.globals.length c3)/\w'.cell? ⟨w.heap.size,10,none⟩=some (.slice a4 m.ey.length c4)/\w'.cell? ⟨w.heap.size,11,none⟩=some (.slice a5 m.elems.length c5)/\w'.cell? ⟨w.heap.size,12,none⟩=some (.slice a6 m.eF.length c6)/\w'.cell? ⟨w.heap.size,13,none⟩=some (.slice a7 m.eP.length c7)) [(0,true),(2,true),(3,true),(5,true),(1,false),(4,false),(6,false),(7,true),(8,false),(9,true)] (by kernel_rfl) (by kernel_rfl) ht ?_;clear ht;replace HX:=V HX.out.drew;replace HS:=V HS.out.drew;generalize w1.drew=w2 at HX HS⊢;iterate 4 (first | (apply sk rfl rfl;simp only [pt]) | (apply eo rfl rfl rfl;·(rintro w' ⟨t0,t1,t2,t3,t4,t5,t6,t7,t8,t9,t10,t11,t12,t13⟩;go_wp2;exact⟨rfl,rfl,rfl⟩)))
 refine ew rfl rfl ?_;go_wp2_with fail;refine(CU m ⟨.slice a0 m.types.length c0, .slice a1 m.imports.length c1, .slice a2 m.funcs.length c2, .slice a3 m.globals.length c3, .slice a4 m.ey.length c4, .slice a5 m.elems.length c5, .slice a6 m.eF.length c6, .slice a7 m.eP.length c7⟩ w2 (eG.below HI.out HS.out) Tk.out O6.out).mono ?_;rintro e w3 ⟨u',rfl,hu,hb⟩;have s2:=HX.out.lt;replace HX:=V (HX.out.below hb HX.out.lt);replace HS:=V (HS.out.trans (hb.mono HS.out.size));have s23:=hb.size;obtain⟨b0,k0,b1,k1,b2,k2,b3,k3,b4,k4,b5,k5,b6,k6,b7,k7,rfl⟩:=eG.open hu;simp only [eT.cells];have HU:=V hu;clear hu hb;go_wp2_with fail;refine⟨HX.out.mod,?_⟩;refine ew rfl rfl ?_;go_wp2_with fail;refine(Cj m.mem w3).mono ?_;rintro e w4 ⟨hb,hme⟩;obtain⟨vm,rfl,hp⟩:∃vm,e= .returned vm/\LP w4 w3.heap.size vm (ju m.mem):=by
  rcases hme with⟨h1,rfl⟩ | ⟨x,X,h1,rfl,h2,h3⟩
  ·exact⟨_,rfl, .inl ⟨h1,rfl⟩⟩
  ·exact⟨_,rfl, .inr ⟨x,X,h1,rfl,h2,h3⟩⟩
 obtain⟨pm,hpm⟩:∃pm,vm= .pointer pm:=by
  rcases hp with⟨-,h⟩ | ⟨_,X,-,h,-⟩
  ·exact⟨_,h⟩
  ·exact⟨_,h⟩
 subst hpm;have s34:=hb.size;replace HX:=V (HX.out.below hb HX.out.lt);replace HS:=V (HS.out.trans (hb.mono HS.out.size));have HMP:=V hp;have HB34:=V hb;clear hb hme hp;go_wp2_with fail;refine⟨HX.out.mod,?_⟩;refine ew rfl rfl ?_;go_wp2_with fail;refine(zk m ⟨.slice a0 m.types.length c0, .slice a1 m.imports.length c1, .slice a2 m.funcs.length c2, .slice a3 m.globals.length c3, .slice a4 m.ey.length c4, .slice a5 m.elems.length c5, .slice a6 m.eF.length c6, .slice a7 m.eP.length c7⟩ w4 (eG.below HI.out HS.out) Rz.out hgl).mono ?_;rintro e w5 ⟨Xs,rfl,Sr,hXs,hb⟩;have s45:=hb.size;replace HX:=V (HX.out.below hb HX.out.lt);replace HS:=V (HS.out.trans (hb.mono HS.out.size));have SQ:=V Sr;have HB45:=V hb;have S2:Xs < w5.heap.size:=by obtain⟨_,_,h,_⟩:=Sr;exact h.lt
 clear hb Sr;go_wp2_with fail;refine⟨HX.out.mod,?_⟩;iterate 1 (first | (apply sk rfl rfl;simp only [pt]) | (apply eo rfl rfl rfl;·(rintro w' ⟨t0,t1,t2,t3,t4,t5,t6,t7,t8,t9,t10,t11,t12,t13⟩;go_wp2;exact⟨rfl,rfl,rfl⟩)))
 refine ew rfl rfl ?_;have hb:=(an w5.heap.size w5).alloc (ag _) (.cells #[.slice b0 m.types.length k0, .slice b1 m.imports.length k1, .slice b2 m.funcs.length k2, .bool m.table.has, .int .i64 m.table.min, .int .i64 m.table.max, .bool m.mem.has, .int .i64 m.mem.min, .int .i64 m.mem.max, .slice b3 m.globals.length k3, .slice b4 m.ey.length k4, .slice b5 m.elems.length k5, .slice b6 m.eF.length k6, .slice b7 m.eP.length k7, .pointer pm, .pointer (some ⟨Xs,0,none⟩), .slice none 0 0] 102);have hxx:=eS.new w5 #[.slice b0 m.types.length k0, .slice b1 m.imports.length k1, .slice b2 m.funcs.length k2, .bool m.table.has, .int .i64 m.table.min, .int .i64 m.table.max, .bool m.mem.has, .int .i64 m.mem.min, .int .i64 m.mem.max, .slice b3 m.globals.length k3, .slice b4 m.ey.length k4, .slice b5 m.elems.length k5, .slice b6 m.eF.length k6, .slice b7 m.eP.length k7, .pointer pm, .pointer (some ⟨Xs,0,none⟩), .slice none 0 0] 102;have HN:=V (show tX w m _ w5.heap.size ⟨.slice b0 m.types.length k0, .slice b1 m.imports.length k1, .slice b2 m.funcs.length k2, .slice b3 m.globals.length k3, .slice b4 m.ey.length k4, .slice b5 m.elems.length k5, .slice b6 m.eF.length k6, .slice b7 m.eP.length k7⟩ (.pointer pm) Xs w2.heap.size w3.heap.size w4.heap.size w5.heap.size (gP m)from
  ⟨HS.out.trans (hb.mono HS.out.size),⟨Nat.le_of_lt s2,s23,s34,s45,rfl,hxx.lt⟩,
   HU.out.ext (iY ((ep.et (S:=fun _=>False) HB34.out).trans ((ep.et (S:=fun _=>False) HB45.out).trans (ep.et (S:=fun _=>False) hb) (fun _ h=>h.elim)) (fun _ h=>h.elim)) (fun _ _ h=>h.elim) (fun i hi h=>by simp [sL,kD]at h⊢;omega)),
   hxx,(JY HMP.out).keeps (P:=fun _=>False) ((ep.et HB45.out).trans (ep.et (S:=fun _=>False) hb) (fun _ h=>h.elim)) (fun _ h=>h.elim),oE.keeps (P:=fun _=>False) SQ.out hXs (ep.et hb) (fun _ h=>h.elim),hXs,S2⟩)
 replace HX:=V (HX.out.below hb HX.out.lt);clear hb hxx HMP SQ HB34 HB45 HU HS;go_wp2_with fail;generalize w5.alloc (.cells #[.slice b0 m.types.length k0, .slice b1 m.imports.length k1, .slice b2 m.funcs.length k2, .bool m.table.has, .int .i64 m.table.min, .int .i64 m.table.max, .bool m.mem.has, .int .i64 m.mem.min, .int .i64 m.mem.max, .slice b3 m.globals.length k3, .slice b4 m.ey.length k4, .slice b5 m.elems.length k5, .slice b6 m.eF.length k6, .slice b7 m.eP.length k7, .pointer pm, .pointer (some ⟨Xs,0,none⟩), .slice none 0 0] 102)=w6 at HX HN⊢;refine⟨HX.out.mod,?_⟩;iterate 1 (first | (apply sk rfl rfl;simp only [pt]) | (apply eo rfl rfl rfl;·(rintro w' ⟨t0,t1,t2,t3,t4,t5,t6,t7,t8,t9,t10,t11,t12,t13⟩;go_wp2;exact⟨rfl,rfl,rfl⟩)))
 refine eW ?_;refine aA ?_;clear HX s2 s23 s34 s45 hXs S2;generalize w2.heap.size=a at HN;generalize w3.heap.size=s3 at HN;generalize w4.heap.size=s4 at HN;generalize w5.heap.size=X at HN⊢;have x11:w6.cell? ⟨X,11,none⟩=some (.slice b5 m.elems.length k5):=HN.out.jE.cell 11;go_wp2_with fail;clear x11;refine eR (fun a' w'=>∃(i:Nat) (sp:zK),a'=fr (gs a' 0 6 (.pointer (some ⟨X,0,none⟩)::gs a' 7 33 (.slice b5 m.elems.length k5:: .int .i64 m.elems.length:: .int .i64 i::gs a' 43 108 [])))/\i <=m.elems.length/\gX (gP m) (m.elems.take i)=some sp/\tX w m w' X ⟨.slice b0 m.types.length k0, .slice b1 m.imports.length k1, .slice b2 m.funcs.length k2, .slice b3 m.globals.length k3, .slice b4 m.ey.length k4, .slice b5 m.elems.length k5, .slice b6 m.eF.length k6, .slice b7 m.eP.length k7⟩ (.pointer pm) Xs a s3 s4 X sp) (fun a' _=>(m.elems.length - (intOf (a'.tmps.getD 42 undef)).toNat)) ?_ ?_
 ·exact⟨0,gP m,rfl,bg _,rfl,HN.out⟩
 ·skip
  rintro R a' w1 ⟨i,sp,Nm,hJ⟩ HR;dsimp only [fr,gs]at Nm;generalize slot a'=f at Nm;subst Nm;obtain⟨hi,hel,hnw⟩:=hJ;have HEL:=V hel;have HNW:=V hnw;clear hel hnw HN;by_cases q:i < m.elems.length
  ·obtain⟨e,he⟩:∃e,m.elems[i]?=some e:=⟨_,aq q⟩
   obtain⟨be,offe,cape,ue,Om,-,-,hbel,NA,N6⟩:=eD.at HNW.out.mod.2.2.2.2.2.1 he;injection Om with e1 e2 e3;subst e1 e3;obtain⟨af,cf,hfe,-,hcfm⟩:=N6.1.sl;have y0:w1.cell? ⟨be,offe+i*2,none⟩=some (.int .i64 e.off):=by
    have:=(gm (NA 0 _ rfl)).2
    rwa [aJ]at this
   have y1:w1.cell? ⟨be,offe+i*2+1,none⟩=some (.slice af e.funcs.length cf):=by
    rw [<- hfe];exact(gm (NA 1 _ rfl)).2
   have HEE:=V he;have OA:=(an w1.heap.size w1).alloc (ag _) (.cells #[.int .i64 e.off, .slice af e.funcs.length cf] 77);have Oa:=V OA;have Pm:=V (eS.new w1 #[.int .i64 e.off, .slice af e.funcs.length cf] 77).drew;have HF:=V (show eA 1 fk w1 (.slice af e.funcs.length cf) e.funcs by rw [<- hfe];exact N6.1.gf);have Ny:=V ((HNW.out.jE.alloc (.cells #[.int .i64 e.off, .slice af e.funcs.length cf] 77)).drew);have Qn:World.cell? _ ⟨X,15,none⟩=some (.pointer (some ⟨Xs,0,none⟩)):=Ny.out.cell 15;have v0:World.cell? _ ⟨w1.heap.size,0,none⟩=some (.int .i64 e.off):=Pm.out.cell 0;have v1:World.cell? _ ⟨w1.heap.size,1,none⟩=some (.slice af e.funcs.length cf):=Pm.out.cell 1;clear he NA N6 hfe e2 hbel OA;go_wp2_with fail;refine eB (fun w'=>w'.cell? ⟨X,15,none⟩=some (.pointer (some ⟨Xs,0,none⟩))/\w'.cell? ⟨w1.heap.size,0,none⟩=some (.int .i64 e.off)/\w'.cell? ⟨w1.heap.size,1,none⟩=some (.slice af e.funcs.length cf)) (up 0 8 ((8,false)::(9,true)::[])) (by kernel_rfl) (by kernel_rfl) ⟨Qn,v0,v1⟩ ?_;clear Qn v0 v1 y0 y1;have HNA:=V (HNW.out.keeps (P:=fun _=>False) (ep.et Oa.out.drew) (fun _ h=>h.elim) (oE.keeps (P:=fun _=>False) HNW.out.space HNW.out.xs.1 (ep.et Oa.out.drew) (fun _ h=>h.elim)));have HF2:=V (HF.out.ext (Ext.et Oa.out.drew));clear HNW HF Oa;generalize(w1.alloc (.cells #[.int .i64 e.off, .slice af e.funcs.length cf] 77)).drew=w7 at HNA HF2 Ny Pm⊢;iterate 8 (first | (apply sk rfl rfl;simp only [pt]) | (apply eo rfl rfl rfl;·(rintro w' ⟨t0,t1,t2⟩;go_wp2;exact⟨rfl,rfl,rfl⟩)))
   refine ew rfl rfl ?_;go_wp2_with fail;refine(zh w7 s4 Xs sp (.slice af e.funcs.length cf) e.off e.funcs HNA.out.space HF2.out).mono ?_;rintro en w8 ⟨rfl,hs8,Pb⟩;have Sd:=oE.Gp (B:=s4) Ny.out (by decide);have hEn:=oE.Gp (B:=s4) Pm.out (by decide);have HX8:=V (Ny.out.keeps Pb Sd);have HE8:=V (Pm.out.keeps Pb hEn);have HN8:=V (HNA.out.keeps Pb (fun g hg=>⟨hg.1,fun e=>by subst e;exact Sd hg⟩) hs8);clear Sd hEn hs8 Pb HNA Ny Pm;obtain⟨r,hr⟩:∃r,iZ sp e.off e.funcs=r:=⟨_,rfl⟩;rw [hr]at HN8⊢;have HT:=V (show gX (gP m) (m.elems.take (i+1))=r by rw [aR,HEE.out,Option.toList_some,qQ,HEL.out];exact hr);clear hr;cases r with
   | none=>
    simp only [Option.isSome_none];go_wp2_with fail;refine⟨⟨HX8.out.cell 15,HE8.out.cell 0,HE8.out.cell 1⟩,?_⟩;iterate 1 (first | (apply sk rfl rfl;simp only [pt]) | (apply eo rfl rfl rfl;·(rintro w' ⟨t0,t1,t2⟩;go_wp2;exact⟨rfl,rfl,rfl⟩)))
    refine eW ?_;refine aA ?_;go_wp2
    go_ret2
    exact⟨HN8.out.below, .inr (.inl ⟨HV.out,qY HT.out,rfl⟩)⟩
   | some sp2=>
    simp only [Option.isSome_some];go_wp2_with fail;refine⟨⟨HX8.out.cell 15,HE8.out.cell 0,HE8.out.cell 1⟩,?_⟩;iterate 1 (first | (apply sk rfl rfl;simp only [pt]) | (apply eo rfl rfl rfl;·(rintro w' ⟨t0,t1,t2⟩;go_wp2;exact⟨rfl,rfl,rfl⟩)))
    refine eW ?_;refine aA ?_;go_wp2;refine HR.out _ _ ⟨i+1,sp2,rfl,by omega,HT.out,HN8.out⟩ ?_;simp [intOf];omega
  ·obtain rfl:i=m.elems.length:=by omega
   rw [aU]at HEL;have hdl:m.eP.length=0:=by rw [HND.out];rfl
   have x13:w1.cell? ⟨X,13,none⟩=some (.slice b7 m.eP.length k7):=HNW.out.jE.cell 13;rw [hdl]at x13;have x14:w1.cell? ⟨X,14,none⟩=some (.pointer pm):=HNW.out.jE.cell 14;clear hdl HR q;go_wp2_with fail;clear x13;refine cQ 1 ?_;rw [cg];go_wp2_with fail;clear x14;refine(CB w1 (sL s3 s4) (.pointer pm) (ju m.mem) HNW.out.mem).mono ?_;rintro en w7 ⟨rfl,hm7,hk7⟩;rw [yZ]at hm7;have TP:=V (HNW.out.clean hk7 hm7);clear hm7 hk7 HNW;have HJ:=V (show xW w7.heap.size w7 X ⟨.slice b0 m.types.length k0, .slice b1 m.imports.length k1, .slice b2 m.funcs.length k2, .slice b3 m.globals.length k3, .slice b4 m.ey.length k4, .slice b5 m.elems.length k5, .slice b6 m.eF.length k6, .slice b7 m.eP.length k7⟩ (.pointer pm) (.pointer (some ⟨Xs,0,none⟩)) m (.slice none 0 0) []from
    ⟨TP.out.jE,ei.nil _ _,fun i j c h=>by simp at h⟩)
   have x12:w7.cell? ⟨X,12,none⟩=some (.slice b6 m.eF.length k6):=TP.out.jE.cell 12;go_wp2_with fail;clear x12;refine eR (fun a' w'=>∃(k:Nat) (vj:Value) (js:List Nat),a'=fr (gs a' 0 6 (.pointer (some ⟨X,0,none⟩)::gs a' 7 108 (.slice b6 m.eF.length k6:: .int .i64 m.eF.length:: .int .i64 k::gs a' 118 33 [])))/\(k <=m.eF.length/\js.length=k)/\xW w7.heap.size w' X ⟨.slice b0 m.types.length k0, .slice b1 m.imports.length k1, .slice b2 m.funcs.length k2, .slice b3 m.globals.length k3, .slice b4 m.ey.length k4, .slice b5 m.elems.length k5, .slice b6 m.eF.length k6, .slice b7 m.eP.length k7⟩ (.pointer pm) (.pointer (some ⟨Xs,0,none⟩)) m vj js/\ep (fun i=>i=X) w7 w') (fun a' _=>(m.eF.length - (intOf (a'.tmps.getD 117 undef)).toNat)) ?_ ?_
   ·exact⟨0,_,[],rfl,⟨bg _,rfl⟩,HJ.out,ep.refl _ _⟩
   ·clear HJ
    rintro R a' w8 ⟨k,vj,js,Nm,hJ⟩ HR;dsimp only [fr,gs]at Nm;generalize slot a'=f at Nm;subst Nm;obtain⟨⟨hk,hjl⟩,hj,Pb⟩:=hJ;subst hjl;have HJ:=V hj;have HK:=V Pb;have HN8:=V (TP.out.mod.ext (iY (S':=fun i=> !sL a s3 i) Pb (fun i _ hp=>by have:=TP.out.ord;subst hp;simp [sL];omega) (fun _ _ h=>h)));clear hj Pb;by_cases q:js.length < m.eF.length;rotate_left
    ·have hjl:js.length=m.eF.length:=by omega
     go_wp2
     go_ret2
     obtain⟨o1,o2,o3,o4,o5,o6⟩:=TP.out.ord;have h78:=HK.out.size;have Sd:X < w8.heap.size:=by omega
     have hFX:∀g,(sL a s3 g || decide (g=X) || sL w7.heap.size w8.heap.size g)=true↔(a <=g/\g < s3)\/g=X\/(w7.heap.size <=g/\g < w8.heap.size):=fun g=>by simp [sL,or_assoc]
     have hFS:∀g,(sL s4 w7.heap.size g&& !decide (g=X))=true↔(s4 <=g/\g < w7.heap.size)/\g≠X:=fun g=>by simp [sL]
     obtain⟨v,v',p1,p2,p3⟩:=TP.out.space;have hxs:=TP.out.xs;refine⟨TP.out.below.trans (HK.out.below TP.out.below.size (fun g hg=>by omega)), .inr (.inr ⟨X,fun g=>sL a s3 g || decide (g=X) || sL w7.heap.size w8.heap.size g,sL s3 s4,fun g=>sL s4 w7.heap.size g&& !decide (g=X),_,sp,HV.out,HEL.out,rfl,⟨HJ.out.jE,(hFX X).2 (.inr (.inl rfl)),HN8.out.ext (iY (P:=fun _=>False) (ep.refl _ _) (fun _ _ h=>h.elim) (fun g _ hg=>?_)),HJ.out.row.lower (bg _),fun g hg=>(hFX g).2 (.inr (.inr (eM HJ.out.row hg))),fun i j c hj hc=>?_,hjl,fun g hg=>?_⟩,
      TP.out.mem.keeps HK.out (fun g hg=>?_),⟨Xs,v,v',rfl,p1.keeps HK.out (by omega),(p2.lower (bg _)).keeps HK.out (fun g hg e=>ei.gF p2 TP.out.jE (by decide) g hg e),(p3.lower (bg _)).keeps HK.out (fun g hg e=>ei.gF p3 TP.out.jE (by decide) g hg e),(hFS Xs).2 ⟨⟨hxs.1,p1.lt⟩,by omega⟩,
       fun g hg=>(hFS g).2 ⟨eM p2 hg,ei.gF p2 TP.out.jE (by decide) g hg⟩,fun g hg=>(hFS g).2 ⟨eM p3 hg,ei.gF p3 TP.out.jE (by decide) g hg⟩⟩,fun g hg=>?_,fun g=>⟨fun h1=>⟨?_,?_⟩,fun h1=>?_⟩⟩)⟩
     ·cases hr:sL a s3 g with
      | false=>rfl
      | true=>simp [hr]at hg
     ·obtain⟨h1,h2⟩:=HJ.out.maps i j c hj hc
      exact⟨h1,(hFX j).2 (.inr (.inr ⟨h2,h1.lt⟩))⟩
     ·rcases(hFX g).1 hg with h1 | h1 | h1 <;>omega
     ·cases hr:sL s3 s4 g with
      | false=>rfl
      | true=>have:=lK.1 hr;omega
     ·rcases hg with h1 | h1 | h1
      ·rcases(hFX g).1 h1 with h1 | h1 | h1 <;>omega
      ·have:=lK.1 h1;omega
      ·have:=(hFS g).1 h1;omega
     ·cases hr:sL s3 s4 g with
      | false=>rfl
      | true=>have:=lK.1 hr;rcases(hFX g).1 h1 with h1 | h1 | h1 <;>omega
     ·cases hr:(sL s4 w7.heap.size g&& !decide (g=X))with
      | false=>exact hr
      | true=>have:=(hFS g).1 hr;rcases(hFX g).1 h1 with h1 | h1 | h1 <;>omega
     ·have:=lK.1 h1
      cases hr:(sL s4 w7.heap.size g&& !decide (g=X))with
      | false=>exact hr
      | true=>have:=(hFS g).1 hr;omega
    ·obtain⟨c,hc⟩:∃c,m.eF[js.length]?=some c:=⟨_,aq q⟩
     obtain⟨bc,RA,capc,⟨uc1,uc2⟩,Om,-,-,hbcl,NA,N6⟩:=eD.at HN8.out.2.2.2.2.2.2.1 hc;injection Om with e1 e2 e3;subst e1 e3;obtain⟨al,cl,hle,-,hclm⟩:=N6.1.1.sl;obtain⟨ab,cb,RG,-,hcbm⟩:=eD.slice N6.1.2;simp only at hle RG;have y0:w8.cell? ⟨bc,RA+js.length*2,none⟩=some (.slice al c.locals.length cl):=by
      have:=(gm (NA 0 _ rfl)).2;rw [<- hle]
      rwa [aJ]at this
     have y1:w8.cell? ⟨bc,RA+js.length*2+1,none⟩=some (.slice ab c.body.length cb):=by
      rw [<- RG];exact(gm (NA 1 _ rfl)).2
     have Ss:=V (show gN w8 (.slice ab c.body.length cb) c.body by rw [<- RG];exact gN.gf N6.1.2);have HCC:=V hc;have HME:=V ((O6.out.1.1.2.2 c (aN hc)).1);have OA:=(an w8.heap.size w8).alloc (ag _) (.cells #[.slice al c.locals.length cl, .slice ab c.body.length cb] 41);have v1:=(eS.new w8 #[.slice al c.locals.length cl, .slice ab c.body.length cb] 41).two.2.1;have Oa:=V OA;have HRO:=HR;clear hc NA N6 hle RG e2 hbcl OA HR;go_wp2_with fail;clear y0 y1 v1;refine(qJ _ c.body _ (Ss.out.below Oa.out)).mono ?_;rintro en w10 ⟨hb,⟨bs,vb,So,rfl,N3⟩ | ⟨So,-⟩⟩;rotate_left
     ·have:=HME.out
      rw [So]at this;cases this
     obtain⟨av,cv,rfl,hcv1,hcvm⟩:=N3.slice;have HMS:=V So;have HB10:=V (Oa.out.trans (hb.mono Oa.out.size));have hbm:=(an w10.heap.size w10).alloc (ag _) (.map #[] 0);have HBM:=V hbm;have HBO:=V (N3.below hbm);have HJM:=V (gr.new w10);have Q9:=fun wx=>run_makeMap (P:=prog) 112 wx;have hvo:=V (fun g (hg:eO (.slice av bs.length cv) g)=>(eM N3 hg).2);clear hb N3 hbm So Oa Ss;go_wp2_with fail;clear Q9;obtain⟨j,hj⟩:∃j,j=w10.heap.size:=⟨_,rfl⟩;have hj1:j < (w10.alloc (.map #[] 0)).heap.size:=by rw [aC];omega
     have HVO:=V (show∀g,eO (.slice av bs.length cv) g ->g < j from fun g hg=>by have:=hvo.out g hg;omega);have hj8:w8.heap.size <=j:=by have:=HB10.out.size;omega
     rw [<- hj]at HJM⊢;have HB11:=V (HB10.out.alloc HB10.out.size (.map #[] 0));clear hj hvo HBM HB10;generalize w10.alloc (.map #[] 0)=Ry at HBO HJM HB11 hj1⊢;refine eR (fun a' w'=>∃(i:Nat),a'=fr (gs a' 0 6 (.pointer (some ⟨X,0,none⟩)::gs a' 7 10 (.map (some j)::gs a' 18 97 (.slice (some ⟨bc,RA,none⟩) m.eF.length k6:: .int .i64 m.eF.length:: .int .i64 js.length::gs a' 118 10 (.slice av bs.length cv:: .int .i64 bs.length:: .int .i64 i::gs a' 131 20 [])))))/\i <=bs.length/\gr w' j (bs.take i)/\ep (fun g=>g=j) Ry w') (fun a' _=>(bs.length - (intOf (a'.tmps.getD 130 undef)).toNat)) ?_ ?_
     ·exact⟨0,rfl,bg _,HJM.out,ep.refl _ _⟩
     ·clear HJM
      rintro R a' w12 ⟨i,Nm,hJ⟩ HR;dsimp only [fr,gs]at Nm;generalize slot a'=f at Nm;subst Nm;obtain⟨hi,hjm,S6⟩:=hJ;have HJM:=V hjm;have HK12:=V S6;have HBO12:=V (HBO.out.keeps S6 (fun g hg e=>by have:=HVO.out g hg;omega));clear hjm S6;by_cases q2:i < bs.length
      ·obtain⟨b,hb⟩:∃b,bs[i]?=some b:=⟨_,aq q2⟩
       obtain⟨bb,offb,capb,Om,hcap1,-,-,NA⟩:=eA.at (HBO12.out.fT jG) hb;injection Om with e1 e2 e3;subst e1 e3;have y0:=NA 0 _ rfl;have y1:=NA 1 _ rfl;have y2:=NA 2 _ rfl;rw [aJ]at y0;have HBI:=V hb;have hbp:=BF HMS.out b (aN hb);have hkey:keyOf prog 3 (.int .i64 b.pos)=some (.int .i64 b.pos):=Maps.keyOf_int_mk KU (WalkArith.wf_i64 (by omega));have HKEY:=V hkey;have Pw:=(an w12.heap.size w12).alloc (ag _) (.cells (yt b).toArray 114);have TK:=V Pw;obtain⟨n,hn,Nl⟩:=HJM.out.below Pw;have Rx:=V Nl;have HNN:=V hn;have hnm:n < maxLen:=by rw [List.length_take]at hn;unfold maxLen;omega
       have HNM:=V hnm;clear hb NA e2 hkey Pw hn Nl hnm hcap1 hbp;go_wp2_with (first | (at_mapUpdate;refine wpList_mapUpdate_own _ rfl _ _ _ 112 rfl 3 114 (Maps.int_keyed KU) Ls DF j n (BC (bs.take i)) rfl Rx.out HNM.out _ _ (.int .i64 b.pos) rfl rfl HKEY.out (J4 b) [] rfl ?_));intro w13 hown13 RD;have HJ13:=V (show gr w13 j (bs.take (i+1))from⟨n+1,by have:=HNN.out;rw [aP]at this⊢;omega,by rw [aR,HBI.out,Option.toList_some,De];exact hown13⟩);have HK13:=V ((HK12.out.trans (ep.et (S:=fun _=>False) TK.out) (fun _ h=>h.elim)).trans (BR RD) (fun _ h=> .inl h));clear hown13 RD y0 y1 y2 Rx HNM HKEY;go_wp2;refine HR.out _ _ ⟨i+1,rfl,by omega,HJ13.out,HK13.out⟩ ?_;simp [intOf];omega
      ·obtain rfl:i=bs.length:=by omega
       rw [aU]at HJM;obtain⟨aj,cj,hvj,-,hcjm⟩:=HJ.out.row.slice;subst hvj;have hX12:=(HJ.out.jE.below HB11.out HJ.out.jE.lt).keeps HK12.out (by have:=HJ.out.jE.lt;omega);have x16:w12.cell? ⟨X,16,none⟩=some (.slice aj js.length cj):=hX12.cell 16;have Tl:=V (show ei 112 1 Ao w12 w7.heap.size (.slice aj js.length cj) js from(HJ.out.row.below HB11.out).keeps HK12.out (fun g hg e=>by have:=(eM HJ.out.row hg).2;omega));have HX12:=V hX12;have hsz7:w7.heap.size <=w12.heap.size:=by have:=HK.out.size;have:=HB11.out.size;have:=HK12.out.size;omega
       clear hX12 HR q2;go_wp2_with (first | (at_builtin;refine fw w12 rfl _ _ 100 rfl _ 8 (by kernel_rfl) Et rfl (by decide) (by decide) w7.heap.size (.slice aj js.length cj) js rfl Tl.out j _ rfl rfl (Hj _) rfl (by omega) hsz7 ?_));intro v14 w14 ho hk14 hs14;obtain⟨a2,c2,hv14,-,-⟩:=ho.slice;rw [ah,aB]at hv14;subst hv14;have hX14:=HX12.out.keeps hk14 (fun hg=>ei.gF Tl.out HX12.out (by decide) X hg rfl);have x16:w14.cell? ⟨X,16,none⟩=some (.slice aj js.length cj):=hX14.cell 16;have z16:=hX14.free 16;have HM:=V (xW.more (c:=c) HJ.out HB11.out hj8 HK12.out HCC.out (show gr w12 j (o8 c)by unfold o8;rw [HMS.out];exact HJM.out) (by have:=HK.out.size;omega) ho hk14);have RZ:=V ((((HK.out.trans (ep.et (S:=fun _=>False) HB11.out) (fun _ h=>h.elim)).trans HK12.out (fun g hg=> .inr (by have:=HK.out.size;omega))).trans hk14 (fun g hg=> .inr (eM Tl.out hg).1)).trans (eE w14 X 16 (.slice a2 (js.length+1) c2)) (fun g hg=> .inl hg));clear hX14 ho hk14 hs14;go_wp2_with fail;refine HRO.out _ _ ⟨js.length+1,_,js++[j],rfl,⟨by omega,by simp⟩,HM.out,RZ.out⟩ ?_;simp [intOf];omega
def sR:eI:=⟨[],[],[0],⟨false,0,0⟩,⟨false,0,0⟩,[],[],[],[],[]⟩
theorem C0:(fo 0 gp).may:=by decide
theorem Ch:8 < (fL (fo 0 gp)).length:=by decide
theorem I1:m0.may/\(fL m0).length=8:=by decide
theorem Iz:¬ sR.may:=by decide
theorem Mg:rE [120]=none:=by decide
theorem Dn:gb (fo 0 gp) 0=true/\gb (fo 0 (gp.take 2)) 0=false/\gb (fo 0 [⟨0,0,0,[]⟩,⟨106,0,0,[]⟩]) 0=true/\gb (fo 0 gp) 1=false:=by decide
theorem nU:iT (fo 0 gp)= -1/\iT (fo 1 gp)=7/\iT sR=0:=by decide
theorem Ck:iT (jq [])= -1:=by decide
theorem AR:∀(f:Nat) (n:Int),(iU f n).length <=f
 | 0,_=>by simp [iU]
 | f+1,n=>by
  unfold iU;split
  ·simp
  ·have:=AR f (n/128)
   simp only [aD];omega
theorem Kk (n:Int):(iG n).length <=10:=AR 10 n
theorem EE (x:fa) (h:x.l=[]):(iH x).length <=21:=by
 have h1:=eU x.a.toNat;have h2:=eU x.b.toNat;have h3:=Kk x.a;have h4:=eU 0;unfold iH gy;rw [h];split <;>simp only [aD,ah,aH,cL,List.flatten_nil] <;>omega
theorem Ae:∀(l:List fa),(∀x∈l,x.l=[]) ->(nz l).length <=21*l.length+1
 | [],_=>by simp [nz]
 | x::l,h=>by
  have h1:=EE x (h x (by simp));have h2:=Ae l (fun y hy=>h y (by simp [hy]));unfold nz at h2⊢;simp only [bF,bO,ah,aD,aH]at h2⊢;omega
theorem Dk {r:List Int} (hr:r=[]\/r=[1]) (body:List fa):(fL (fE r body)).length <=(nz body).length+500:=by
 unfold fL qf;have h1:(gA 1 ld (fE r body).types).length <=40:=by
  rcases hr with rfl | rfl
  ·show(gA 1 ld (fE [] []).types).length <=40;decide
  ·show(gA 1 ld (fE [1] []).types).length <=40;decide
 have h2:(gA 2 od (fE r body).imports).length <=40:=by show(gA 2 od (jq []).imports).length <=40;decide
 have h3:(gA 3 tk (fE r body).funcs).length <=40:=by show(gA 3 tk (jq []).funcs).length <=40;decide
 have h4:(gA 4 jy (oneOf (fE r body).table)).length <=40:=by show(gA 4 jy (oneOf (jq []).table)).length <=40;decide
 have h5:(gA 5 gR (oneOf (fE r body).mem)).length <=40:=by show(gA 5 gR (oneOf (jq []).mem)).length <=40;decide
 have h6:(gA 6 kS (fE r body).globals).length <=40:=by show(gA 6 kS (jq []).globals).length <=40;decide
 have h7:(gA 7 oz (fE r body).ey).length <=40:=by show(gA 7 oz (jq []).ey).length <=40;decide
 have h8:(gA 9 ll (fE r body).elems).length <=40:=by show(gA 9 ll (jq []).elems).length <=40;decide
 have h9:(gA 11 oy (fE r body).eP).length=0:=rfl;have h0:fN.length=8:=rfl;have ha:(gA 10 iK (fE r body).eF).length=1+((ff (ix iK (fE r body).eF).length).length+((ff 2).length+((iK ⟨[],body⟩).length+(iK ⟨[],[⟨32,0,0,[]⟩]⟩).length))):=by
  show(10::(ff (ix iK (fE r body).eF).length++(ff 2++(iK ⟨[],body⟩++(iK ⟨[],[⟨32,0,0,[]⟩]⟩++[]))))).length=_;simp only [aD,ah,aH];omega
 have hb:=eU (ix iK (fE r body).eF).length;have hc:=eU 2;have hd:(iK ⟨[],body⟩).length=(ff (mM ⟨[],body⟩).length).length+((kJ []).length+(nz body).length):=by
  unfold iK mM;simp only [ah]
 have he:=eU (mM ⟨[],body⟩).length;have hf:(kJ []).length=1:=by decide
 have hg:(iK ⟨[],[⟨32,0,0,[]⟩]⟩).length <=20:=by decide
 simp only [ah];omega
theorem Hq {r:List Int} (hr:r=[]\/r=[1]) (body:List fa) (hk:ij.may ⟨[],body⟩) (hl:∀x∈body,x.l=[]):(fE r body).may:=by
 have h0:(fE r []).may:=by rcases hr with rfl | rfl <;>decide
 obtain⟨⟨⟨h1,h2,h3⟩,h4,h5,h6⟩,-⟩:=h0;refine⟨⟨⟨h1,h2,fun x hx=>?_⟩,h4,h5,h6⟩,?_⟩
 ·simp only [fE,bx,bI,cH]at hx
  rcases hx with rfl | rfl
  ·exact hk
  ·exact h3 _ (by simp [fE])
 ·have:=Dk hr body
  have:=Ae body hl;have:=hk.2.2.1;simp only at this;omega
theorem xm {r:List Int} (hr:r=[]\/r=[1]) (body:List fa) (hk:ij.may ⟨[],body⟩) (hl:∀x∈body,x.l=[]) (hf:gb (fE r body) 0=true):iT (fE r body)= -1:=by
 have a1:((fE r body).imports.any fun x=>mr (fE r body) x.type)=false:=rfl;have a2:((fE r body).funcs.any fun t=>mr (fE r body) t)=false:=rfl;have a3:lj (fE r body).table=false:=rfl;have a4:lj (fE r body).mem=false:=rfl;have a5:zE (fE r body)=false:=rfl;have a6:(fE r body).table.has=true:=rfl;have a7:Ar (fE r body)=false:=rfl;have a8:gb (fE r body) 1=true:=rfl;have a9:jz (fE r body) (fE r body).eF.length=true:=by
  show((true&&gb (fE r body) 0)&&gb (fE r body) 1)=true;rw [hf,a8];rfl
 have a10:(fE r body).eP.length=0:=rfl;unfold iT;rw [ay (Hq hr body hk hl),a1,a2,a3,a4,a5,a6,a7,a9,a10];simp
theorem r9 (b:List fa):∀(l:List fa) (i:Nat),(∀x∈l,¬ (x.op=2\/x.op=3\/x.op=4\/x.op=5\/x.op=11)) ->gL b l i ([],[])=some ([],[])
 | [],_,_=>rfl
 | x::l,i,h=>by
  have hx:=h x (by simp);have h1:ko x.op=false:=by
   unfold ko;simp only [dw,de];omega
  unfold gL gx;rw [az (by simp [h1]),aE (by omega)];exact r9 b l (i+1) (fun y hy=>h y (by simp [hy]))
theorem zA (l:List fa) (hl:l.length <=300) (h:∀x∈l,¬ (x.op=2\/x.op=3\/x.op=4\/x.op=5\/x.op=11)):fM l=some []:=by
 unfold fM;rw [az (by omega),r9 l l 0 h];rfl
theorem E5 {r:List Int} (body:List fa) (c:eX) (hm:(fM body).isSome=true) (hq:eX.run (fE r body) [] ⟨[],[⟨2,r.head?.getD 0,0,false⟩],false⟩ body=some c) (hc:c.shut.2.bad=false):gb (fE r body) 0=true:=by
 unfold gb;rw [az (show ¬ ((0:Int) < 0\/((fE r body).eF.length:Int) <=0\/((fE r body).funcs.length:Int) <=0)from by show ¬ ((0:Int) < 0\/(2:Int) <=0\/(2:Int) <=0);decide)];show(if true=false\/(fM body).isSome=false then false else match eX.run (fE r body) [] ⟨[],[⟨2,r.head?.getD 0,0,false⟩],false⟩ body with
  | none=>false
  | some c=> !c.shut.2.bad&&decide (([]:List Int).length <=32))=true
 rw [hm,hq];simp [hc]
def jH (a:Int):fa:=⟨65,a,0,[]⟩
theorem Fo (m:eI) (c:eX) (hc:c.bad=false) (a:Int) (rest:List fa):eX.run m [] c (jH a::rest)=eX.run m [] (c.push [1]) rest:=by
 have h:c.step m [] (jH a)=c.push [1]:=rfl;show(if(c.step m [] (jH a)).bad=true then none else eX.run m [] (c.step m [] (jH a)) rest)=_;rw [h,az (by show ¬ c.bad=true;simp [hc])]
def yO (i:Nat):List fa:=[⟨16,1,0,[]⟩,jH i,⟨16,0,0,[]⟩,⟨106,0,0,[]⟩]
def jQ (k:Nat):List fa:=jH 0::(List.range k).flatMap yO
theorem td (k:Nat):jQ (k+1)=jQ k++yO k:=by
 unfold jQ;rw [List.range_succ,List.flatMap_append,List.flatMap_singleton,bH]
theorem oG (k:Nat):(jQ k).length=1+4*k:=by
 induction k with
 | zero=>rfl
 | succ k ih=>
  rw [td,ah,ih];show 1+4*k+4=_;omega
theorem oC {k:Nat} {x:fa} (h:x∈jQ k):x=⟨16,1,0,[]⟩\/(∃i:Nat,i < k/\x=jH i)\/x=jH 0\/x=⟨16,0,0,[]⟩\/x=⟨106,0,0,[]⟩:=by
 rcases bx.1 h with rfl | h
 ·exact .inr (.inr (.inl rfl))
 ·obtain⟨i,hi,hx⟩:=List.mem_flatMap.1 h
  simp only [yO,bx,bI,cH]at hx;rcases hx with rfl | rfl | rfl | rfl
  ·exact .inl rfl
  ·exact .inr (.inl ⟨i,List.mem_range.1 hi,rfl⟩)
  ·exact .inr (.inr (.inr (.inl rfl)))
  ·exact .inr (.inr (.inr (.inr rfl)))
theorem uJ {k i j:Nat} {x:fa} (hi:i < k) (hx:(yO i)[j]?=some x):(jQ k)[1+4*i+j]?=some x:=by
 have hj:j < 4:=(aG.1 hx).1
 induction k with
 | zero=>omega
 | succ k ih=>
  rw [td];by_cases q:i < k
  ·rw [bD (by rw [oG];omega)]
   exact ih q
  ·obtain rfl:i=k:=by omega
   rw [bo (by rw [oG];omega),oG,Nat.add_sub_cancel_left];exact hx
theorem EF {k:Nat}:∀x∈jQ k,x.mW:=by
 intro x hx;rcases oC hx with rfl | ⟨i,-,rfl⟩ | rfl | rfl | rfl <;>simp [fa.mW,jH]
theorem Lv {k:Nat}:∀x∈jQ k,x.l=[]:=by
 intro x hx;rcases oC hx with rfl | ⟨i,-,rfl⟩ | rfl | rfl | rfl <;>rfl
theorem Bx {k:Nat} (hk:k <=10):rp (jQ k):=by
 intro x hx;rcases oC hx with rfl | ⟨i,hi,rfl⟩ | rfl | rfl | rfl
 ·simp [iV]
 ·refine⟨rfl,by simp [jH,iV],?_,by simp [jH,iV]⟩
  show iV (i:Int);unfold iV;omega
 ·simp [jH,iV]
 ·simp [iV]
 ·simp [iV]
theorem Ap {k:Nat} (hk:k <=10):ij.may ⟨[],jQ k⟩:=by
 have hl:=oG k;have hm:fM (jQ k)=some []:=zA _ (by omega) (by
  intro x hx;rcases oC hx with rfl | ⟨i,-,rfl⟩ | rfl | rfl | rfl <;>simp [jH])
 refine⟨by rw [hm];rfl,⟨by simp,by simp⟩,by show(jQ k).length <=300;omega,fun x hx=>?_⟩;rcases oC hx with rfl | ⟨i,hi,rfl⟩ | rfl | rfl | rfl
 ·decide
 ·exact I6 (by omega) (by omega)
 ·decide
 ·decide
 ·decide
theorem Hl (B:List fa) (i:Nat) (rest:List fa):eX.run (fE [1] B) [] ⟨[1],[⟨2,1,0,false⟩],false⟩ (yO i++rest)=eX.run (fE [1] B) [] ⟨[1],[⟨2,1,0,false⟩],false⟩ rest:=by
 have e1:(⟨[1],[⟨2,1,0,false⟩],false⟩:eX).step (fE [1] B) [] ⟨16,1,0,[]⟩=⟨[1],[⟨2,1,0,false⟩],false⟩:=rfl;have e2:(⟨[1],[⟨2,1,0,false⟩],false⟩:eX).step (fE [1] B) [] (jH i)=⟨[1,1],[⟨2,1,0,false⟩],false⟩:=rfl;have e3:(⟨[1,1],[⟨2,1,0,false⟩],false⟩:eX).step (fE [1] B) [] ⟨16,0,0,[]⟩=⟨[1,1],[⟨2,1,0,false⟩],false⟩:=rfl;have e4:(⟨[1,1],[⟨2,1,0,false⟩],false⟩:eX).step (fE [1] B) [] ⟨106,0,0,[]⟩=⟨[1],[⟨2,1,0,false⟩],false⟩:=rfl;unfold yO;simp only [bH,bY];rw [eX.run,e1,az dZ,eX.run,e2,az dZ,eX.run,e3,az dZ,eX.run,e4,az dZ]
theorem AU (B:List fa):∀(l:List Nat),eX.run (fE [1] B) [] ⟨[1],[⟨2,1,0,false⟩],false⟩ (l.flatMap yO)=some ⟨[1],[⟨2,1,0,false⟩],false⟩
 | []=>rfl
 | i::l=>by rw [bK,Hl,AU B l]
theorem CF {k:Nat} (hk:k <=10):iT (fE [1] (jQ k))= -1:=by
 refine xm (.inr rfl) _ (Ap hk) Lv (E5 _ ⟨[1],[⟨2,1,0,false⟩],false⟩ (Ap hk).1 ?_ (by decide));show eX.run (fE [1] (jQ k)) [] ⟨[],[⟨2,1,0,false⟩],false⟩ (jH 0::(List.range k).flatMap yO)=_;rw [Fo _ _ rfl];exact AU _ _
theorem CO (body:List fa) (h:∀x∈body,x.mW):∀c∈(fE [1] body).eF,∀x∈c.body,x.mW:=by
 intro c hc x hx;simp only [fE,bx,bI,cH]at hc;rcases hc with rfl | rfl
 ·exact h x hx
 ·simp only [bx,bI,cH]at hx
  subst hx;unfold fa.mW
  decide
def Ee (X b o g k J:Nat):Array Value:=#[.pointer (some ⟨X,0,none⟩), .pointer (some ⟨b,o,none⟩), .pointer (some ⟨g,k,none⟩), .map (some J)]
def kx (w:World) (D X b o g k J:Nat):Prop:=eS w D (Ee X b o g k J) 133
theorem kx.not {w:World} {D X b o g k J:Nat} {pre post:List Value} {t:TypeId} {v:qC} {s:fP} (h:kx w D X b o g k J) (hs:fV w b pre post t v s):¬ v.own b D:=
 hs.not h (fun e=>by subst e;exact hs.ty.2.2.2 (hs.jE.uniq h)) (by decide)
theorem kx.keeps {P:Nat ->Prop} {w w':World} {D X b o g k J:Nat} (h:kx w D X b o g k J) (hk:ep P w w') (hP:¬ P D):kx w' D X b o g k J:=eS.keeps h hk hP
theorem kx.below {w w':World} {D X b o g k J:Nat} (h:kx w D X b o g k J) (hk:Below w.heap.size w w'):kx w' D X b o g k J:=eS.below h hk h.lt
theorem kx.drew {w:World} {D X b o g k J:Nat} (h:kx w D X b o g k J):kx w.drew D X b o g k J:=eS.drew h
theorem kx.alloc {w:World} {D X b o g k J:Nat} (h:kx w D X b o g k J) (ob:Obj):kx (w.alloc ob) D X b o g k J:=eS.alloc h ob
theorem kx.d0 {w:World} {D X b o g k J:Nat} (h:kx w D X b o g k J):w.cell? ⟨D,0,none⟩=some (.pointer (some ⟨X,0,none⟩)):=eS.cell h 0
theorem kx.d1 {w:World} {D X b o g k J:Nat} (h:kx w D X b o g k J):w.cell? ⟨D,1,none⟩=some (.pointer (some ⟨b,o,none⟩)):=eS.cell h 1
theorem kx.d2 {w:World} {D X b o g k J:Nat} (h:kx w D X b o g k J):w.cell? ⟨D,2,none⟩=some (.pointer (some ⟨g,k,none⟩)):=eS.cell h 2
def gq (b:Nat) (pre post:List Value) (t:TypeId) (v:qC) (r:gz × fP) (w:World) (e:Ending) (w':World):Prop:=
 ∃v' vv,e= .returned (lq r.1 vv)/\fV w' b pre post t v' r.2/\kt v v' b w w'/\ei 52 2 fR w' w.heap.size vv r.1.eu/\∀g,eO vv g ->¬ v'.own b g
def lV (w:World) (X:Nat) (a b c:Int) (v:Value):World:=(((w.setCell ⟨X,0,none⟩ (.int .i64 a)).setCell ⟨X,1,none⟩ (.int .i64 b)).setCell ⟨X,2,none⟩ (.int .i64 c)).setCell ⟨X,3,none⟩ v
theorem gI (w:World) (X:Nat) (a b c:Int) (v:Value):ep (fun i=>i=X) w (lV w X a b c v):=
 (((eE w X 0 _).trans (eE _ X 1 _) (fun _ h=> .inl h)).trans (eE _ X 2 _) (fun _ h=> .inl h)).trans (eE _ X 3 _) (fun _ h=> .inl h)
theorem ln {w w2:World} {xs:Array Value} (hx:eS w2 w.heap.size xs 49) (hs:xs.size=4) (a b c:Int) (v:Value):
  (loadVar 49 ⟨w.heap.size,0,none⟩).run prog (lV w2 w.heap.size a b c v)= .ok (.agg #[.int .i64 a, .int .i64 b, .int .i64 c,v]) (lV w2 w.heap.size a b c v):=by
 obtain⟨x0,x1,x2,x3,rfl⟩:∃x0 x1 x2 x3,xs=#[x0,x1,x2,x3]:=by
  match xs,hs with
  | ⟨[x0,x1,x2,x3]⟩,_=>exact⟨x0,x1,x2,x3,rfl⟩
 exact(hx.vF _ _ _ _).sw
theorem gq.mk {w w2:World} {b:Nat} {pre post:List Value} {t:TypeId} {v v':qC} {r:gz × fP} {o:gz} {s:fP} {vv:Value} (he:r=(o,s)) (hs:fV w2 b pre post t v' s) (ht:kt v v' b w w2) (hn:¬ v'.own b w.heap.size)
  (hv:ei 52 2 fR w2 w.heap.size vv o.eu) (Qb:∀g,eO vv g ->¬ v'.own b g) (OI:¬ eO vv w.heap.size) (a1 a2 a3:Int) (h1:o.kind=a1) (h2:o.lH=a2) (h3:o.fn=a3):
  gq b pre post t v r w (.returned (.agg #[.int .i64 a1, .int .i64 a2, .int .i64 a3,vv])) (lV w2 w.heap.size a1 a2 a3 vv):=by
 subst he h1 h2 h3;have Np:=gI w2 w.heap.size o.kind o.lH o.fn vv;exact⟨v',vv,rfl,hs.keeps Np (fun g hg e=>hn (e▸hg)),⟨ht.1.trans Np (fun i hi=> .inr (by omega)),ht.2⟩,hv.keeps Np (fun g hg e=>OI (e▸hg)),Qb⟩
def kB (l1 puts:List fi) (s:fP) (lo:List fg) (f:fg):gz × fP:=
 if 1000 < l1.length+puts.length then(.full,s)else(.more,⟨l1++puts,lo++[{f with pc:=f.pc+1}],s.asks⟩)
theorem fV.yN {w:World} {b:Nat} {pre post:List Value} {t:TypeId} {v:qC} {s:fP} (h:fV w b pre post t v s):¬ v.own b w.heap.size:=fun hg=>by have:=h.lt hg;omega
theorem sK (w:World) (D X b g J cap:Nat) (pre post:List Value) (t:TypeId) (uv:Value) (us:List (Value × Value)) (u:Value × Value) (l1 l2 puts:List fi) (lo:List fg) (f:fg) (asks:Int) (pv:Value) (kz:Int) (hkz:kz=l2.length)
  (NH:fV w b pre post t ⟨uv, .slice (some ⟨g,0,none⟩) (lo.length+1) cap,us++[u]⟩ ⟨l1++l2,lo++[f],asks⟩) (hd:kx w D X b pre.length g (lo.length*5) J) (hp:eA 2 fR w pv puts)
  (hn:l1.length+puts.length <=100000) (Qk: -1 <=f.pc/\f.pc <=1000000):
  Calls prog 54 #[.pointer (some ⟨D,0,none⟩), .int .i64 kz,pv] w (gq b pre post t ⟨uv, .slice (some ⟨g,0,none⟩) (lo.length+1) cap,us++[u]⟩ (kB l1 puts ⟨l1++l2,lo++[f],asks⟩ lo f) w):=by
 subst hkz;obtain⟨av,cv,Se,Oh,OS⟩:=NH.eu.slice;simp only [ah]at Se Oh;subst Se;obtain⟨ap,cp,rfl,-,hcpm,-⟩:=id hp;unfold maxLen at hcpm;have NG:=(an w.heap.size w).alloc (ag _) (.cells #[.int .i64 0, .int .i64 0, .int .i64 0, .slice none 0 0] 49);have HX:=V (eS.new w #[.int .i64 0, .int .i64 0, .int .i64 0, .slice none 0 0] 49);have SS:=V NH;have Nn:=V (NH.below NG);have HD:=V (hd.below NG);have HP:=V (hp.below NG);have HT:=V (kt.et (v:=⟨.slice av (l1.length+l2.length) cv, .slice (some ⟨g,0,none⟩) (lo.length+1) cap,us++[u]⟩) (b:=b) NG);have d1:=HD.out.d1;have c0:World.cell? _ ⟨b,pre.length,none⟩=some (.slice av (l1.length+l2.length) cv):=Nn.out.c0;clear NH hd hp NG;by_cases q:1000 < l1.length+puts.length
 ·have f1:decide ((1000:Int) < (l1.length:Int)+(puts.length:Int))=true:=ay (by omega)
  have f2:decide (1000 < l1.length+puts.length)=true:=ay q;have HR:=V (show kB l1 puts ⟨l1++l2,lo++[f],asks⟩ lo f=(.full,⟨l1++l2,lo++[f],asks⟩)by unfold kB;rw [if_pos q]);clear q;go_enter func54,ntmps54;go_wp2_with fail;refine(Bt _).mono ?_;rintro e w2 ⟨rfl,hb⟩;replace HX:=V (HX.out.below hb HX.out.lt);replace Nn:=V (Nn.out.below hb);replace HT:=V (HT.out.below hb);clear hb d1 c0;obtain⟨⟨x0,x1,x2,x3⟩,z0,z1,z2,z3⟩:=HX.out.four;go_wp2_with fail;refine aF (eH rfl _ _ rfl (ln HX.out rfl 5 0 0 (.slice none 0 0))) rfl ?_;exact gq.mk HR.out Nn.out HT.out SS.out.yN (ei.nil _ _) (fun g hg=>by simp [eO,Value.ownBlock]at hg) (by simp [eO,Value.ownBlock]) 5 0 0 rfl rfl rfl
 ·have f1:decide ((1000:Int) < (l1.length:Int)+(puts.length:Int))=false:=aw (by omega)
  have f2:decide (1000 < l1.length+puts.length)=false:=aw q;have HR:=V (show kB l1 puts ⟨l1++l2,lo++[f],asks⟩ lo f=(.more,⟨l1++puts,lo++[{f with pc:=f.pc+1}],asks⟩)by unfold kB;rw [if_neg q]);clear q;have OC:=fun wx=>vy av (l1.length+l2.length) cv l1.length (by omega) wx;go_enter func54,ntmps54;go_wp2_with fail;refine eY (fun w'=>w'.cell? ⟨D,1,none⟩=some (.pointer (some ⟨b,pre.length,none⟩))/\w'.cell? ⟨b,pre.length,none⟩=some (.slice av (l1.length+l2.length) cv)) 17 (up 0 14 ((14,false)::(15,true)::(16,true)::[])) (by kernel_rfl) (by kernel_rfl) ⟨d1,c0⟩ ?_;replace HX:=V HX.out.drew;replace Nn:=V Nn.out.drew;replace HD:=V HD.out.drew;replace HP:=V (HP.out.below (an _ _).drew);replace HT:=V HT.out.drew;clear d1 c0;generalize(w.alloc (.cells #[.int .i64 0, .int .i64 0, .int .i64 0, .slice none 0 0] 49)).drew=w1 at HX Nn HD HP HT⊢;iterate 14 (first | (apply sk rfl rfl;simp only [pt]) | (apply eo rfl rfl rfl;·(rintro w' ⟨t0,t1⟩;go_wp2;exact⟨rfl,rfl,rfl⟩)))
  refine ew rfl rfl ?_;clear OC;have HC:=V (show ei 52 2 fR w1 0 (.slice av l1.length cv) l1 by
   have h:=ei.take fK Nn.out.eu l1.length (by simp)
   rwa [dt rfl]at h)
  go_wp2_with (first | (at_builtin;refine sG w1 rfl _ _ 47 rfl _ 16 (by kernel_rfl) jB rfl (by decide) (by decide) 0 (.slice av l1.length cv) l1 rfl HC.out fK _ puts rfl HP.out (fun y _=>lx y) (by omega) (bg _) ?_));intro v2 w2 ho hk hs;obtain⟨a2,c2,OI,-,-⟩:=ho.slice;rw [ah]at OI;subst OI;replace hk:ep (eO (.slice av (l1.length+l2.length) cv)) w1 w2:=hk.mono (fun i hi=>(ei.same i).1 hi);replace hs:eQ w1 (.slice av (l1.length+l2.length) cv) (.slice a2 (l1.length+puts.length) c2):=fun i hi=>(hs i hi).imp (fun h=>(ei.same i).1 h) id;have ND:=Nn.out.DR hk;obtain⟨OF,HT2⟩:=Nn.out.si ho hk hs;have hDn:=HD.out.not Nn.out;have Sd:¬ eO (.slice av (l1.length+l2.length) cv) w.heap.size:=fun hg=>ei.gF Nn.out.eu HX.out (by decide) _ hg rfl;have QO:=HD.out.keeps hk (fun hg=>hDn (.inr (.inl hg)));have Ny:=V (HX.out.keeps hk Sd);have c0:w2.cell? ⟨b,pre.length,none⟩=some (.slice av (l1.length+l2.length) cv):=(ND.1.cell _).trans (qo _ _ _ _);have z0:=ND.1.free pre.length;have d1:=QO.d1;have HSS:=V OF;have HTT:=V (HT.out.trans HT2);have Tp:=V (QO.keeps (eE w2 b pre.length (.slice a2 (l1.length+puts.length) c2)) (fun e=>hDn (.inl e)));have TN:=V (Ny.out.keeps (eE w2 b pre.length (.slice a2 (l1.length+puts.length) c2)) (fun e=>SS.out.yN (.inl e)));clear ND OF HT2 hDn Sd QO Ny hk hs ho HC HX HT Nn HP HD;go_wp2_with fail;refine⟨⟨d1,c0⟩,?_⟩;iterate 2 (first | (apply sk rfl rfl;simp only [pt]) | (apply eo rfl rfl rfl;·(rintro w' ⟨t0,t1⟩;go_wp2;exact⟨rfl,rfl,rfl⟩)))
  refine fJ rfl rfl ?_;go_wp2;refine⟨trivial,?_⟩;refine aA ?_;clear d1 c0 z0;generalize w2.setCell ⟨b,pre.length,none⟩ (.slice a2 (l1.length+puts.length) c2)=w3 at HSS HTT Tp TN⊢;obtain⟨⟨-,p1,-,-,-⟩,-,-,zg,-,-⟩:=HSS.out.cells;have z1:=zg (lo.length*5+1);have d2:=Tp.out.d2;have hp1: -1 <=f.pc:=Qk.1;have Sn:f.pc <=1000000:=Qk.2;have HNP:=V (HSS.out.IX {f with pc:=f.pc+1} 1 (x:= .int .i64 (f.pc+1)) (by decide) rfl rfl rfl);have TN:=V (TN.out.keeps (eE w3 g (lo.length*5+1) (.int .i64 (f.pc+1))) (fun e=>SS.out.yN (.inr (.inr (.inl (by rw [e];simp [eO,Value.ownBlock]))))));clear zg Qk;go_wp2_with fail;clear p1 z1 d2;generalize w3.setCell ⟨g,lo.length*5+1,none⟩ (.int .i64 (f.pc+1))=w4 at HNP TN⊢;refine(wD _).mono ?_;rintro e w5 ⟨rfl,hb⟩;replace HX:=V (TN.out.below hb TN.out.lt);have Nn:=V (HNP.out.1.below hb);have HT:=V ((HTT.out.trans HNP.out.2).below hb);clear hb TN HNP HTT;obtain⟨⟨x0,x1,x2,x3⟩,z0,z1,z2,z3⟩:=HX.out.four;go_wp2_with fail;refine aF (eH rfl _ _ rfl (ln HX.out rfl 1 0 0 (.slice none 0 0))) rfl ?_;have N2:=SS.out.jE.lt;exact gq.mk HR.out Nn.out HT.out (Nn.out.not HX.out (by omega) (by decide)) (ei.nil _ _) (fun g hg=>by simp [eO,Value.ownBlock]at hg) (by simp [eO,Value.ownBlock]) 1 0 0 rfl rfl rfl
def lM (l1 l2:List fi) (res:Bool):List fi:=if res=true then l1++(l1++l2).getLast?.toList else l1
def JU (b:Nat) (pre post:List Value) (t:TypeId) (uv uf:Value) (us:List (Value × Value)) (SR:List fi) (s:fP) (w:World) (e:Ending) (w':World):Prop:=
 ∃uv',e= .returned (.tuple #[])/\fV w' b pre post t ⟨uv',uf,us⟩ {s with eu:=SR}/\kt ⟨uv,uf,us⟩ ⟨uv',uf,us⟩ b w w'
theorem Ha (w:World) (D X b g k J:Nat) (pre post:List Value) (t:TypeId) (uv uf:Value) (us:List (Value × Value)) (l1 l2:List fi) (ez:List fg) (asks:Int) (hz:Int) (hhz:hz=l1.length) (res:Bool) (NO:res=true ->l1++l2≠[])
  (NH:fV w b pre post t ⟨uv,uf,us⟩ ⟨l1++l2,ez,asks⟩) (hd:kx w D X b pre.length g k J) (hn:l1.length+l2.length <=100000):
  Calls prog 98 #[.pointer (some ⟨D,0,none⟩), .int .i64 hz, .bool res] w (JU b pre post t uv uf us (lM l1 l2 res) ⟨l1++l2,ez,asks⟩ w):=by
 subst hhz;obtain⟨av,cv,Se,Oh,OS⟩:=NH.eu.slice;simp only [ah]at Se Oh;subst Se;have NG:=(an w.heap.size w).drew;have Nn:=V NH.drew;have HD:=V hd.drew;have HT:=V (kt.et (v:=⟨.slice av (l1.length+l2.length) cv,uf,us⟩) (b:=b) NG);have d1:=HD.out.d1;have c0:World.cell? _ ⟨b,pre.length,none⟩=some (.slice av (l1.length+l2.length) cv):=Nn.out.c0;have OC:=fun wx=>vy av (l1.length+l2.length) cv l1.length (by omega) wx;have HC:=V (show ei 52 2 fR w.drew 0 (.slice av l1.length cv) l1 by
   have h:=ei.take fK Nn.out.eu l1.length (by simp)
   rwa [dt rfl]at h)
 clear NH hd NG;cases res
 ·clear NO
  go_enter func98,ntmps98;go_wp2_with fail;refine eY (fun w'=>w'.cell? ⟨D,1,none⟩=some (.pointer (some ⟨b,pre.length,none⟩))/\w'.cell? ⟨b,pre.length,none⟩=some (.slice av (l1.length+l2.length) cv)) 15 (up 0 15 []) (by kernel_rfl) (by kernel_rfl) ⟨d1,c0⟩ ?_;clear d1 c0;generalize w.drew=w1 at Nn HD HT HC⊢;iterate 15 (first | (apply sk rfl rfl;simp only [pt]) | (apply eo rfl rfl rfl;·(rintro w' ⟨t0,t1⟩;go_wp2;exact⟨rfl,rfl,rfl⟩)))
  refine fJ rfl rfl ?_;have c0:w1.cell? ⟨b,pre.length,none⟩=some (.slice av (l1.length+l2.length) cv):=Nn.out.c0;have z0:=Nn.out.jE.free pre.length;go_wp2;refine⟨trivial,?_⟩;refine aA ?_;go_wp2
  go_end0
  obtain⟨h1,h2⟩:=Nn.out.si HC.out (ep.refl _ _) (fun i hi=> .inl ((ei.same i).1 hi));exact⟨_,rfl,h1,HT.out.trans h2⟩
 ·obtain⟨l,x,hlx⟩:=sn (NO rfl)
  have HL:=V hlx;have HK:Hid (lM l1 l2 true=l1++[x]):=V (by unfold lM;rw [if_pos rfl,hlx];simp);clear NO hlx;go_enter func98,ntmps98;go_wp2_with fail;refine eY (fun w'=>w'.cell? ⟨D,1,none⟩=some (.pointer (some ⟨b,pre.length,none⟩))/\w'.cell? ⟨b,pre.length,none⟩=some (.slice av (l1.length+l2.length) cv)) 19 (up 0 14 ((14,false)::(15,false)::(16,false)::(17,true)::(18,true)::[])) (by kernel_rfl) (by kernel_rfl) ⟨d1,c0⟩ ?_;clear d1 c0;generalize w.drew=w1 at Nn HD HT HC⊢;iterate 14 (first | (apply sk rfl rfl;simp only [pt]) | (apply eo rfl rfl rfl;·(rintro w' ⟨t0,t1⟩;go_wp2;exact⟨rfl,rfl,rfl⟩)))
  clear OC;refine ew rfl rfl ?_;go_wp2_with fail;refine(Bv w1 D b pre.length 0 (.slice av (l1.length+l2.length) cv) l x HD.out.d1 Nn.out.c0 (by rw [<- HL.out];exact Nn.out.eu)).mono ?_;rintro e w2 ⟨rfl,hb⟩;replace Nn:=V (Nn.out.below hb);replace HD:=V (HD.out.below hb);replace HT:=V (HT.out.below hb);replace HC:=V (HC.out.below hb);clear hb;go_wp2_with fail;refine⟨⟨HD.out.d1,Nn.out.c0⟩,?_⟩;refine ew rfl rfl ?_;go_wp2_with fail;refine⟨⟨(HD.out.alloc _).d1,(Nn.out.alloc _).c0⟩,?_⟩;refine ew rfl rfl ?_;go_wp2_with (first | (at_builtin;refine fw w2 rfl _ _ 47 rfl _ 16 (by kernel_rfl) jB rfl (by decide) (by decide) 0 (.slice av l1.length cv) l1 rfl HC.out (⟨x.kind,x.n⟩:fi) _ rfl rfl (lx _) rfl (by omega) (bg _) ?_));intro v2 w3 ho hk hs;obtain⟨a2,c2,OI,-,-⟩:=ho.slice;have e2:(l1++[(⟨x.kind,x.n⟩:fi)]).length=l1.length+1:=by simp
  rw [e2]at OI;subst OI;replace hk:ep (eO (.slice av (l1.length+l2.length) cv)) w2 w3:=hk.mono (fun i hi=>(ei.same i).1 hi);replace hs:eQ w2 (.slice av (l1.length+l2.length) cv) (.slice a2 (l1.length+1) c2):=fun i hi=>(hs i hi).imp (fun h=>(ei.same i).1 h) id;have ND:=Nn.out.DR hk;have HP:=V (Nn.out.si ho hk hs);have d1:=(HD.out.keeps hk (fun hg=>HD.out.not Nn.out (.inr (.inl hg)))).d1;have c0:w3.cell? ⟨b,pre.length,none⟩=some (.slice av (l1.length+l2.length) cv):=(ND.1.cell _).trans (qo _ _ _ _);have z0:=ND.1.free pre.length;clear ND hk hs ho e2;go_wp2_with fail;refine⟨⟨d1,c0⟩,?_⟩;iterate 2 (first | (apply sk rfl rfl;simp only [pt]) | (apply eo rfl rfl rfl;·(rintro w' ⟨t0,t1⟩;go_wp2;exact⟨rfl,rfl,rfl⟩)))
  refine fJ rfl rfl ?_;go_wp2;refine⟨trivial,?_⟩;refine aA ?_;go_wp2
  go_end0
  rw [HK.out];exact⟨_,rfl,HP.out.1,HT.out.trans HP.out.2⟩
def kq (m:eI) (f:Int) (t:gC):Prop:=
 (∃(i ti:Nat) (x:kj),m.imports[i]?=some x/\x.type=(ti:Int)/\m.types[ti]?=some t/\f=(i:Int))\/∃i ti:Nat,m.funcs[i]?=some (ti:Int)/\m.types[ti]?=some t/\f=((m.imports.length+i:Nat):Int)
theorem nI (w:World) (FX:Nat ->Bool) (X:Nat) (iv:lg) (m:eI) (h:iM w FX X iv m) (t:gC) (f:Int) (hf:kq m f t) (hk:m.imports.length+m.funcs.length <=100000):
  Calls prog 43 #[.pointer (some ⟨X,0,none⟩), .int .i64 f] w (Dx FX t w):=by
 rcases hf with⟨i,ti,x,h1,h2,h3,h4⟩ | ⟨i,ti,h1,h2,h3⟩
 ·exact FL w FX X iv m h i ti x t h1 h2 h3 f h4 hk
 ·exact Gv w FX X iv m h i ti t h1 h2 f h3 hk
def uR (vs:List fi) (lo:List fg) (asks:Int):gz × fP:=if 0 < lo.length then(.more,⟨vs,lo,asks⟩)else(⟨3,0,0,vs⟩,⟨vs,lo,asks⟩)
def Mn (T:Nat) (t:gC) (w0 w:World):Prop:=∃ap cp ar cr,eS w T #[.slice ap t.params.length cp, .slice ar t.results.length cr] 69/\cr <=9223372036854775807/\Below w0.heap.size w0 w/\w0.heap.size <=T
theorem E6 (l1 l2:List fi) (res:Bool) (h:l1.length+l2.length <=50000):(lM l1 l2 res).length <=1000000:=by
 unfold lM;split
 ·rw [ah]
  have:(l1++l2).getLast?.toList.length <=1:=by cases(l1++l2).getLast? <;>simp
  omega
 ·omega
theorem GL (w:World) (FX:Nat ->Bool) (D X b g J cap:Nat) (iv:lg) (m:eI) (pre post:List Value) (t:TypeId) (uv:Value) (us:List (Value × Value)) (u:Value × Value) (l1 l2:List fi) (lo:List fg) (fq:fg) (asks:Int) (ty:gC)
  (NH:fV w b pre post t ⟨uv, .slice (some ⟨g,0,none⟩) (lo.length+1) cap,us++[u]⟩ ⟨l1++l2,lo++[fq],asks⟩) (hd:kx w D X b pre.length g (lo.length*5) J) (N6:iM w FX X iv m) (PJ:kq m fq.fn ty) (hk:m.imports.length+m.funcs.length <=100000)
  (NN:fq.base=(l1.length:Int)) (NO:0 < ty.results.length ->l1++l2≠[]) (hn:l1.length+l2.length <=50000):
  Calls prog 60 #[.pointer (some ⟨D,0,none⟩)] w (gq b pre post t ⟨uv, .slice (some ⟨g,0,none⟩) (lo.length+1) cap,us++[u]⟩ (uR (lM l1 l2 (decide (0 < ty.results.length))) lo asks) w):=by
 have NG:=(an w.heap.size w).alloc (ag _) (.cells #[.int .i64 0, .int .i64 0, .int .i64 0, .slice none 0 0] 49);have HX:=V (eS.new w #[.int .i64 0, .int .i64 0, .int .i64 0, .slice none 0 0] 49);have SS:=V NH;have Nn:=V (NH.below NG);have HD:=V (hd.below NG);have NF:=V (N6.below NG);have QI:=V PJ;have HT:=V (kt.et (v:=⟨uv, .slice (some ⟨g,0,none⟩) (lo.length+1) cap,us++[u]⟩) (b:=b) NG);have HBS:=V NN;have HRS:=V NO;have N2:=NH.jE.lt;clear NH hd N6 NG PJ NN NO;go_enter func60,ntmps60;go_wp2_with fail;generalize(w.alloc (.cells #[.int .i64 0, .int .i64 0, .int .i64 0, .slice none 0 0] 49))=w0 at HX Nn HD NF HT⊢;refine wp_cut (fun a' w'=>∃(T:Nat),a'=fr (.pointer (some ⟨D,0,none⟩)::gs a' 1 1 (.pointer (some ⟨w.heap.size,0,none⟩):: .pointer (some ⟨T,0,none⟩)::gs a' 4 71 []))/\Mn T ty w0 w') ?_ ?_
 ·obtain⟨⟨p0,-,-,-,-⟩,-,-,-,-,-,-⟩:=Nn.out.cells
  have d0:=HD.out.d0;have d2:=HD.out.d2;have HSB:=V (show∀w',Below w0.heap.size w0 w' ->w'.cell? ⟨D,0,none⟩=some (.pointer (some ⟨X,0,none⟩))/\w'.cell? ⟨D,2,none⟩=some (.pointer (some ⟨g,lo.length*5,none⟩))/\w'.cell? ⟨g,lo.length*5,none⟩=some (.int .i64 fq.fn)from
   fun w' hb=>⟨(Ext.et hb).1 _ _ d0,(Ext.et hb).1 _ _ d2,(Ext.et hb).1 _ _ p0⟩)
  refine mo (fun w'=>w'.cell? ⟨D,0,none⟩=some (.pointer (some ⟨X,0,none⟩))/\w'.cell? ⟨D,2,none⟩=some (.pointer (some ⟨g,lo.length*5,none⟩))/\w'.cell? ⟨g,lo.length*5,none⟩=some (.int .i64 fq.fn)) (ord [(0,true),(1,true),(2,true),(3,true),(4,true),(5,true),(6,true),(7,true),(8,true),(9,true),(10,true)]
   (.fork 11 15 (ord [(12,true),(13,true),(14,true),(15,false),(16,false),(17,true)] .nil) (ord [(11,false),(12,true),(13,true),(14,true),(16,false),(17,true)] .nil))) (by kernel_rfl) (by kernel_rfl) (HSB.out _ (an _ _).drew) ?_
  clear p0 d0 d2;dsimp only [ord];iterate 11 (first | (apply ord_skip rfl rfl;simp only [Act.put,aX,bE,bG]) | (apply iR rfl rfl rfl;·(rintro w' ⟨t0,t1,t2⟩;go_wp2;exact⟨rfl,rfl,rfl⟩)))
  refine pL rfl rfl rfl rfl ?_ ?_
  ·go_wp2_with fail
   refine(nI _ FX X iv m (NF.out.below (an _ _).drew) ty fq.fn QI.out hk).mono ?_;rintro e w2 ⟨u1,u2,rfl,h1,h2,NJ⟩;have hb:Below w0.heap.size w0 w2:=fY NJ;obtain⟨ap,cp,rfl,-,-⟩:=h1.sl;obtain⟨ar,cr,rfl,-,hcr⟩:=h2.sl;have HB:=V hb;clear h1 h2 hb NJ;go_wp2_with fail;refine⟨HSB.out _ HB.out,?_⟩;iterate 3 (first | (apply ord_skip rfl rfl;simp only [Act.put,aX,bE,bG]) | (apply iR rfl rfl rfl;·(rintro w' ⟨t0,t1,t2⟩;go_wp2;exact⟨rfl,rfl,rfl⟩)))
   refine fW rfl rfl ?_;have No:=HB.out.alloc HB.out.size (.cells #[.slice none 0 0, .slice none 0 0] 69);have hT:=eS.new w2 #[.slice none 0 0, .slice none 0 0] 69;have hT1:=HB.out.size;go_wp2_with fail;refine⟨HSB.out _ No,?_⟩;refine fW rfl rfl ?_;generalize w2.alloc (.cells #[.slice none 0 0, .slice none 0 0] 69)=w3 at No hT⊢;obtain⟨x0,x1,z0,z1⟩:=hT.two;go_wp2_with fail;have Np:=fQ w3 w2.heap.size (.slice ap ty.params.length cp) (.slice ar ty.results.length cr);have NP:=No.trans (Np.below No.size (fun i hi=>by omega));refine⟨HSB.out _ NP,?_⟩;iterate 1 (first | (apply ord_skip rfl rfl;simp only [Act.put,aX,bE,bG]) | (apply iR rfl rfl rfl;·(rintro w' ⟨t0,t1,t2⟩;go_wp2;exact⟨rfl,rfl,rfl⟩)))
   refine nc ?_;refine aA ?_;exact⟨rfl,w2.heap.size,rfl,ap,cp,ar,cr,hT.nC _ _,hcr,NP,hT1⟩
  ·have No:=((an w0.heap.size w0).alloc (ag _) (.cells #[.slice none 0 0, .slice none 0 0] 69)).drew
   have hT:=(eS.new w0 #[.slice none 0 0, .slice none 0 0] 69).drew;go_wp2_with fail;refine⟨HSB.out _ No,?_⟩;refine fW rfl rfl ?_;have NQ:=V No;have HT2:=V hT;generalize(w0.alloc (.cells #[.slice none 0 0, .slice none 0 0] 69)).drew=w3 at NQ HT2⊢;clear No hT;go_wp2_with fail;refine(nI _ FX X iv m (NF.out.below NQ.out) ty fq.fn QI.out hk).mono ?_;rintro e w4 ⟨u1,u2,rfl,h1,h2,hb⟩;obtain⟨ap,cp,rfl,-,-⟩:=h1.sl;obtain⟨ar,cr,rfl,-,hcr⟩:=h2.sl;have OG:=NQ.out.trans (hb.mono NQ.out.size);have hT4:=HT2.out.below hb HT2.out.lt;clear h1 h2 hb NQ HT2;go_wp2_with fail;refine⟨HSB.out _ OG,?_⟩;iterate 3 (first | (apply ord_skip rfl rfl;simp only [Act.put,aX,bE,bG]) | (apply iR rfl rfl rfl;·(rintro w' ⟨t0,t1,t2⟩;go_wp2;exact⟨rfl,rfl,rfl⟩)))
   refine fW rfl rfl ?_;obtain⟨x0,x1,z0,z1⟩:=hT4.two;go_wp2_with fail;have Np:=fQ w4 w0.heap.size (.slice ap ty.params.length cp) (.slice ar ty.results.length cr);have N7:=OG.trans (Np.below OG.size (fun i hi=>by omega));refine⟨HSB.out _ N7,?_⟩;iterate 1 (first | (apply ord_skip rfl rfl;simp only [Act.put,aX,bE,bG]) | (apply iR rfl rfl rfl;·(rintro w' ⟨t0,t1,t2⟩;go_wp2;exact⟨rfl,rfl,rfl⟩)))
   refine nc ?_;refine aA ?_;exact⟨rfl,w0.heap.size,rfl,ap,cp,ar,cr,hT4.nC _ _,hcr,N7,ag _⟩
 ·skip
  rintro a' w1 ⟨T,Nm,hJ⟩;dsimp only [fr,gs]at Nm;generalize slot a'=f at Nm;subst Nm;obtain⟨ap,cp,ar,cr,hT,hcr,hb,hTn⟩:=hJ;replace HX:=V (HX.out.below hb HX.out.lt);replace Nn:=V (Nn.out.below hb);replace HD:=V (HD.out.below hb);replace HT:=V (HT.out.below hb);have hww:=hb.size;clear hb NF QI;obtain⟨⟨-,-,-,p3,-⟩,-,-,-,-,-,-⟩:=Nn.out.cells;rw [HBS.out]at p3;have hS:w1.drew.cell? ⟨D,2,none⟩=some (.pointer (some ⟨g,lo.length*5,none⟩))/\w1.drew.cell? ⟨g,lo.length*5+3,none⟩=some (.int .i64 (l1.length:Int))/\w1.drew.cell? ⟨T,1,none⟩=some (.slice ar ty.results.length cr):=⟨HD.out.d2,p3,hT.two.2.1⟩;clear p3;obtain⟨res,NO⟩:∃res,decide (0 < ty.results.length)=res:=⟨_,rfl⟩;have f1:decide ((0:Int) < (ty.results.length:Int))=res:=by rw [<- NO];congr 1;apply propext;omega
  have HRS:=V (show res=true ->l1++l2≠[]from fun h=>HRS.out (by rw [h]at NO;exact cD NO));have HRE:=V NO;go_wp2_with fail;refine eY (fun w'=>w'.cell? ⟨D,2,none⟩=some (.pointer (some ⟨g,lo.length*5,none⟩))/\w'.cell? ⟨g,lo.length*5+3,none⟩=some (.int .i64 (l1.length:Int))/\w'.cell? ⟨T,1,none⟩=some (.slice ar ty.results.length cr)) 12 (up 0 12 []) (by kernel_rfl) (by kernel_rfl) hS ?_;clear hS;iterate 12 (first | (apply sk rfl rfl;simp only [pt]) | (apply eo rfl rfl rfl;·(rintro w' ⟨t0,t1,t2⟩;go_wp2;exact⟨rfl,rfl,rfl⟩)))
  refine fJ rfl rfl ?_;replace HX:=V HX.out.drew;replace Nn:=V Nn.out.drew;replace HD:=V HD.out.drew;replace HT:=V HT.out.drew;clear hT NO;generalize w1.drew=w2 at HX Nn HD HT⊢;clear f1;go_wp2_with fail;refine(Ha w2 D X b g (lo.length*5) J pre post t uv (.slice (some ⟨g,0,none⟩) (lo.length+1) cap) (us++[u]) l1 l2 (lo++[fq]) asks _ rfl res HRS.out Nn.out HD.out (by omega)).mono ?_;rintro e w3 ⟨uv',rfl,hst3,ht3⟩;have Sd:=Nn.out.not HX.out (by omega) (by decide);replace HX:=V (HX.out.keeps ht3.1 Sd);replace HD:=V (HD.out.keeps ht3.1 (HD.out.not Nn.out));replace HT:=V (HT.out.trans ht3);replace Nn:=V hst3;clear hst3 ht3 Sd;go_wp2;refine⟨trivial,?_⟩;refine aA ?_;have hS:w3.drew.cell? ⟨D,1,none⟩=some (.pointer (some ⟨b,pre.length,none⟩))/\w3.drew.cell? ⟨b,pre.length+1,none⟩=some (.slice (some ⟨g,0,none⟩) (lo.length+1) cap):=⟨HD.out.d1,Nn.out.c1⟩;obtain⟨-,-,-,-,-,NX,OS⟩:=Nn.out.cells;have OC:=fun wx=>GU (some ⟨g,0,none⟩) (lo.length+1) cap lo.length (by omega) wx;go_wp2_with fail;refine eY (fun w'=>w'.cell? ⟨D,1,none⟩=some (.pointer (some ⟨b,pre.length,none⟩))/\w'.cell? ⟨b,pre.length+1,none⟩=some (.slice (some ⟨g,0,none⟩) (lo.length+1) cap)) 23 (up 0 23 []) (by kernel_rfl) (by kernel_rfl) hS ?_;clear hS;replace HX:=V HX.out.drew;replace Nn:=V Nn.out.drew;replace HD:=V HD.out.drew;replace HT:=V HT.out.drew;generalize w3.drew=w4 at HX Nn HD HT⊢;iterate 23 (first | (apply sk rfl rfl;simp only [pt]) | (apply eo rfl rfl rfl;·(rintro w' ⟨t0,t1⟩;go_wp2;exact⟨rfl,rfl,rfl⟩)))
  clear OC;refine fJ rfl rfl ?_;have c1:w4.cell? ⟨b,pre.length+1,none⟩=some (.slice (some ⟨g,0,none⟩) (lo.length+1) cap):=Nn.out.c1;have z1:=Nn.out.jE.free (pre.length+1);go_wp2;refine⟨trivial,?_⟩;refine aA ?_;clear c1 z1;obtain⟨h1,h2⟩:=Nn.out.Gy;have Sd:=Nn.out.not HX.out (by omega) (by decide);replace HX:=V (HX.out.keeps h2.1 Sd);replace HD:=V (HD.out.keeps h2.1 (HD.out.not Nn.out));replace HT:=V (HT.out.trans h2);replace Nn:=V h1;clear h1 h2 Sd;generalize w4.setCell ⟨b,pre.length+1,none⟩ (.slice (some ⟨g,0,none⟩) lo.length cap)=w5 at HX Nn HD HT⊢;have d1:=HD.out.d1;have c1:w5.cell? ⟨b,pre.length+1,none⟩=some (.slice (some ⟨g,0,none⟩) lo.length cap):=Nn.out.c1;by_cases q:0 < lo.length
  ·have f1:decide ((0:Int) < (lo.length:Int))=true:=ay (by omega)
   have f2:decide (0 < lo.length)=true:=ay q;have HR:=V (show uR (lM l1 l2 res) lo asks=(.more,⟨lM l1 l2 res,lo,asks⟩)by unfold uR;rw [if_pos q]);clear q;go_wp2_with fail;refine(wD _).mono ?_;rintro e w6 ⟨rfl,hb⟩;replace HX:=V (HX.out.below hb HX.out.lt);replace Nn:=V (Nn.out.below hb);replace HT:=V (HT.out.below hb);clear hb d1 c1;obtain⟨⟨x0,x1,x2,x3⟩,z0,z1,z2,z3⟩:=HX.out.four;go_wp2_with fail;refine aF (eH rfl _ _ rfl (ln HX.out rfl 1 0 0 (.slice none 0 0))) rfl ?_;rw [HRE.out];exact gq.mk HR.out Nn.out HT.out (Nn.out.not HX.out (by omega) (by decide)) (ei.nil _ _) (fun g hg=>by simp [eO,Value.ownBlock]at hg) (by simp [eO,Value.ownBlock]) 1 0 0 rfl rfl rfl
  ·have f1:decide ((0:Int) < (lo.length:Int))=false:=aw (by omega)
   have f2:decide (0 < lo.length)=false:=aw q;have HR:=V (show uR (lM l1 l2 res) lo asks=(⟨3,0,0,lM l1 l2 res⟩,⟨lM l1 l2 res,lo,asks⟩)by unfold uR;rw [if_neg q]);clear q;obtain⟨av,cv,Se,-,Oh⟩:=Nn.out.eu.slice;have c0:w5.cell? ⟨b,pre.length,none⟩=some (.slice av (lM l1 l2 res).length cv):=by rw [<- Se];exact Nn.out.c0
   have HV:=V (show eA 2 fR w5 (.slice av (lM l1 l2 res).length cv) (lM l1 l2 res)by rw [<- Se];exact Nn.out.eu.fT fK);have HW:=V HT.out.1.size;clear Se;go_wp2_with fail;refine(lR _ (lM l1 l2 res) w5 HV.out (E6 l1 l2 res (by omega))).mono ?_;rintro e w6 ⟨vv,rfl,ho,hb⟩;obtain⟨a2,c2,rfl,-,-⟩:=ho.slice;have HO:=V ho;have HL:=V hb.size;have HN:=V (fun g (hg:eO (.slice a2 (lM l1 l2 res).length c2) g)=>show w5.heap.size <=g from(eM ho hg).1);have St:=V (fun g hg=>Nn.out.lt (g:=g) hg);have HXL:=V HX.out.lt;replace HX:=V (HX.out.below hb HX.out.lt);replace Nn:=V (Nn.out.below hb);replace HT:=V (HT.out.below hb);clear hb d1 c1 c0 ho;obtain⟨⟨x0,x1,x2,x3⟩,z0,z1,z2,z3⟩:=HX.out.four;go_wp2_with fail;refine aF (eH rfl _ _ rfl (ln HX.out rfl 3 0 0 (.slice a2 (lM l1 l2 res).length c2))) rfl ?_;rw [HRE.out];exact gq.mk HR.out Nn.out HT.out (Nn.out.not HX.out (by omega) (by decide)) (HO.out.lower HW.out) (fun g hg h=>by have:=HN.out g hg;have:=St.out g h;omega) (fun h=>by have:=HN.out _ h;have:=HXL.out;omega) 3 0 0 rfl rfl rfl
def K6 (ks:List Int) (w:World) (e:Ending) (w':World):Prop:=∃v,e= .returned v/\ei 3 1 fk w' w.heap.size v ks/\Below w.heap.size w w'
def Iu (T X bc q:Nat) (vp v1 v12 vl:Value) (w:World):Prop:=
 w.cell? ⟨T,0,none⟩=some vp/\w.cell? ⟨X,1,none⟩=some v1/\w.cell? ⟨X,12,none⟩=some v12/\w.cell? ⟨bc,q,none⟩=some vl
theorem Iu.ext {T X bc q:Nat} {vp v1 v12 vl:Value} {w w':World} (h:Iu T X bc q vp v1 v12 vl w) (he:Ext w w'):Iu T X bc q vp v1 v12 vl w':=⟨he.1 _ _ h.1,he.1 _ _ h.2.1,he.1 _ _ h.2.2.1,he.1 _ _ h.2.2.2⟩
theorem ep.vG {B:Nat} {v:Value} {w0 w w':World} {t:TypeId} {k n:Nat} {xs:List Value} (h:Below w0.heap.size w0 w) (ho:w.ownsRow B t k v n xs) (hB:w0.heap.size <=B) (hk:ep (eO v) w w'):Below w0.heap.size w0 w':=
 h.trans (hk.below h.size (fun i hi=>by have:=(eM ho hi).1;omega))
theorem Dy (w:World) (FX:Nat ->Bool) (X:Nat) (iv:lg) (m:eI) (h:iM w FX X iv m) (k:Nat) (c:ij) (ty:gC) (hc:m.eF[k]?=some c) (f:Int) (hf:f=((m.imports.length+k:Nat):Int)) (PJ:kq m f ty) (hk:m.imports.length+m.funcs.length <=100000) (OT:k <=100000) (hl:ty.params.length+c.locals.length <=100000):
  Calls prog 49 #[.pointer (some ⟨X,0,none⟩), .int .i64 f] w (K6 (ty.params++c.locals) w):=by
 have N8:=(aG.1 hc).1;have NF:=V h;have HC:=V hc;have HF:=V hf;have HIM:=V (show km m f=false by rw [hf];simp [km];omega);have hty2:=nI w FX X iv m h ty f PJ hk;clear h hc hf PJ;go_enter func49,ntmps49;go_wp2_with fail;refine hty2.mono ?_;clear hty2;rintro e w2 ⟨u1,u2,rfl,h1,h2,hb⟩;obtain⟨ap,cp,rfl,-,hcp⟩:=h1.sl;obtain⟨ar,cr,rfl,-,-⟩:=h2.sl;have HP:=V (h1.ext (qK FX w2));have HB:=V (hb.alloc hb.size (.cells #[.slice ap ty.params.length cp, .slice ar ty.results.length cr] 69));have HT:=V (eS.new w2 #[.slice ap ty.params.length cp, .slice ar ty.results.length cr] 69);replace HP:=V (HP.out.ext (Ext.et ((an w2.heap.size w2).alloc (ag _) (.cells #[.slice ap ty.params.length cp, .slice ar ty.results.length cr] 69))));clear h1 h2 hb;go_wp2_with fail;generalize w2.alloc (.cells #[.slice ap ty.params.length cp, .slice ar ty.results.length cr] 69)=w3 at HP HB HT⊢;refine(jw w3 FX X iv m (NF.out.below HB.out) f).mono ?_;rintro e w4 ⟨rfl,hb⟩;rw [HIM.out];replace HT:=V (HT.out.below hb HT.out.lt).drew;replace HP:=V (HP.out.ext (Ext.et hb));replace HB:=V (HB.out.trans (hb.mono HB.out.size)).drew;clear hb;have N6:=NF.out.below HB.out;obtain⟨b,off,cap,u,Ph,NX,OS,N2,NA,hi⟩:=eD.at N6.mod.2.2.2.2.2.2.1 HC.out;obtain⟨ai,ci,h1,-,hcim⟩:=N6.is.2.1.sl;obtain⟨al,cl,hle,-,hclm⟩:=hi.1.1.sl;have x1:w4.drew.cell? ⟨X,1,none⟩=some (.slice ai m.imports.length ci):=by rw [<- h1];exact N6.jE.cell 1
 have x12:w4.drew.cell? ⟨X,12,none⟩=some (.slice (some ⟨b,off,none⟩) m.eF.length cap):=by rw [<- Ph];exact N6.jE.cell 12
 have y1:w4.drew.cell? ⟨b,off+k*2,none⟩=some (.slice al c.locals.length cl):=by
  have:=(gm (NA 0 _ rfl)).2;rw [<- hle];exact this
 have HL:=V (show eA 1 fk w4.drew (.slice al c.locals.length cl) c.locals by rw [<- hle];exact hi.1.1.ext (qK FX _));replace HP:=V (show eA 1 fk w4.drew (.slice ap ty.params.length cp) ty.params from HP.out.ext (Ext.et (an _ _).drew));have hS:Iu w2.heap.size X b (off+k*2) (.slice ap ty.params.length cp) (.slice ai m.imports.length ci) (.slice (some ⟨b,off,none⟩) m.eF.length cap) (.slice al c.locals.length cl) w4.drew:=⟨HT.out.two.1,x1,x12,y1⟩;clear N6 NA hi Ph h1 hle x1 x12 y1 N2;have HFF:=HF.out;subst HFF;go_wp2_with fail;refine eB (Iu w2.heap.size X b (off+k*2) (.slice ap ty.params.length cp) (.slice ai m.imports.length ci) (.slice (some ⟨b,off,none⟩) m.eF.length cap) (.slice al c.locals.length cl)) ((1,true)::(2,true)::up 4 16 ((0,false)::(3,false)::(20,false)::(21,true)::[])) (by kernel_rfl) (by kernel_rfl) hS ?_;have HS:=V hS;clear hS;generalize w4.drew=w5 at HT HB HS HL HP⊢;iterate 18 (first | (apply sk rfl rfl;simp only [pt]) | (apply eo rfl rfl rfl;·(rintro w' ⟨t0,t1,t2,t3⟩;go_wp2;exact⟨rfl,rfl,rfl⟩)))
 refine ew rfl rfl ?_;have Pw:=(an w5.heap.size w5).alloc (ag _) (.cells #[] 3);have TK:=V Pw;clear Pw;go_wp2_with fail;refine⟨HS.out.ext (Ext.et TK.out),?_⟩;refine ew rfl rfl ?_;have HO:=V (ei.empty (α:=Int) (t:=3) (k:=1) (enc:=fk) w5);have HP2:=V (HP.out.ext (Ext.et TK.out));have Oc:=TK.out.size;go_wp2_with (first | (at_builtin;refine mw (w5.alloc (.cells #[] 3)) rfl _ _ rfl rfl w5.heap.size (.slice (some ⟨w5.heap.size,0,none⟩) 0 0) [] rfl HO.out _ ty.params rfl HP2.out (by simp only [aH];omega) Oc ?_));intro v6 w6 ho QY hs6;have Pp:Below w5.heap.size w5 w6:=ep.vG TK.out HO.out (ag _) QY;have HO6:=V (show ei 3 1 fk w6 w5.heap.size v6 ty.params from ho);have HB6:=V Pp;clear ho QY hs6 Pp;obtain⟨a6,c6,rfl,-,-⟩:=HO6.out.slice;go_wp2_with fail;refine⟨HS.out.ext (Ext.et HB6.out),?_⟩;refine ew rfl rfl ?_;have SZ:=V (HL.out.ext (Ext.et HB6.out));have hsz6:=HB6.out.size;go_wp2_with (first | (at_builtin;refine mw w6 rfl _ _ rfl rfl w5.heap.size (.slice a6 ty.params.length c6) ty.params rfl HO6.out _ c.locals rfl SZ.out (by omega) hsz6 ?_));intro v7 w7 ho hk7 hs7;have HB7:=V (ep.vG HB6.out HO6.out (ag _) hk7);have HO7:=V ho;clear ho hk7 hs7;go_wp2_with fail;refine⟨HS.out.ext (Ext.et HB7.out),?_⟩;iterate 1 (first | (apply sk rfl rfl;simp only [pt]) | (apply eo rfl rfl rfl;·(rintro w' ⟨t0,t1,t2,t3⟩;go_wp2;exact⟨rfl,rfl,rfl⟩)))
 refine eW ?_;refine aA ?_;go_wp2;go_ret;exact⟨_,rfl,HO7.out.lower HB.out.size,HB.out.trans (HB7.out.mono HB.out.size)⟩
theorem Ie {w:World} {B:Nat} {v:Value} {ks:List Int} (h:ei 3 1 fk w B v ks) (n:Nat) (hn:n <=ks.length):
  ∃a cap dp,v= .slice a ks.length cap/\cap <=9223372036854775807/\(∀wx,(Instr.slice 26 (.slice a ks.length cap) (some (.int .i64 n)) none none).run prog wx= .ok (.slice dp (ks.length - n) (cap - n)) wx)/\
   ∀(w':World) (B':Nat),ei 3 1 fk w' B' (.slice a ks.length cap) ks ->eA 1 fk w' (.slice dp (ks.length - n) (cap - n)) (ks.drop n):=by
 have hi:=h.fT fI;obtain⟨a,cap,rfl,h1,h2,-⟩:=hi;by_cases q:n < ks.length
 ·obtain⟨g,NK,cur,hv,-,hg,-⟩:=h.open (by intro e;rw [e]at q;simp at q)
  injection hv with e1 _ e2;subst e1 e2;refine⟨_,cap,some ⟨g,n,none⟩,rfl,by simpa [maxLen] using h2,fun wx=>kK g _ cap n q h1 wx,fun w' B' h'=>⟨some ⟨g,n,none⟩,cap - n,by rw [bu],by rw [bu];omega,by omega,fun i x hx=>?_⟩⟩;obtain⟨a',NK,Si,_,_,h3⟩:=h'.fT fI;injection Si with e3 _ e4;subst e3 e4;rw [List.getElem?_drop]at hx;obtain⟨b,off,he,Nu,hc⟩:=h3 (n+i) x hx;injection he with he;injection he with e3 e4;subst e3 e4;refine⟨g,n,rfl,Nu,fun j u hu=>?_⟩;have:=hc j u hu;rw [<- this]
  congr 2
  omega
 ·obtain rfl:n=ks.length:=by omega
  have ha:a=none ->cap=0:=by
   intro e;obtain⟨_,hv | ⟨g,NK,cur,hv,-⟩⟩:=h
   ·have:=hv.1
    injection this
   ·rw [e]at hv
    injection hv with e1;cases e1
  obtain⟨dp,hr⟩:=pG a ks.length cap h1 ha;refine⟨a,cap,dp,rfl,by simpa [maxLen] using h2,fun wx=>by rw [hr wx,Nat.sub_self],fun w' B' h'=>⟨dp,cap - ks.length,by simp,by simp,by omega,?_⟩⟩;simp
def zv (k:Int):fi:=⟨k,0⟩
def mO (ks:List Int) (s:fP) (f:Int) (args:List fi):gz × fP:=
 if 32 <=s.ez.length then(.full,s)else(.more,⟨s.eu,s.ez++[⟨f,0,args++(ks.drop args.length).map zv,s.eu.length,[]⟩],s.asks⟩)
def LR (args:List fi) (kv:Value) (ks rest:List Int) (w2 w':World) (v:Value) (i:Nat):Prop:=i <=rest.length/\ei 3 1 fk w' 0 kv ks/\ei 52 2 fR w' w2.heap.size v (args++(rest.take i).map zv)/\Below w2.heap.size w2 w'
theorem FR (w:World) (FX:Nat ->Bool) (X b:Nat) (iv:lg) (m:eI) (pre post:List Value) (t:TypeId) (v:qC) (s:fP) (k:Nat) (c:ij) (ty:gC) (fn:Int) (args:List fi) (va:Value)
  (NH:fV w b pre post t v s) (N6:iM w FX X iv m) (hc:m.eF[k]?=some c) (hf:fn=((m.imports.length+k:Nat):Int)) (PJ:kq m fn ty) (hk:m.imports.length+m.funcs.length <=100000) (OT:k <=100000) (hl:ty.params.length+c.locals.length <=100000)
  (ha:eA 2 fR w va args) (O4:args.length <=(ty.params++c.locals).length) (hn:s.eu.length <=50000) (Nm:s.ez.length <=50000):
  Calls prog 24 #[.pointer (some ⟨X,0,none⟩), .pointer (some ⟨b,pre.length,none⟩), .int .i64 fn,va] w (gq b pre post t v (mO (ty.params++c.locals) s fn args) w):=by
 obtain⟨eu,ez,asks⟩:=s;obtain⟨uv,uf,us⟩:=v;obtain⟨av,cv,Se,-,OS⟩:=NH.eu.slice;obtain⟨af,cf,huf,-,hcfm⟩:=NH.ez.slice;have hzl:(ez.zip us).length=ez.length:=by rw [bV,NH.rows.len,cV]
 simp only at Se huf hn Nm;rw [hzl]at huf;subst Se huf;obtain⟨aa,ca,rfl,-,hcam⟩:=id ha;unfold maxLen at hcam;have NG:=(an w.heap.size w).alloc (ag _) (.cells #[.int .i64 0, .int .i64 0, .int .i64 0, .slice none 0 0] 49);have HX:=V (eS.new w #[.int .i64 0, .int .i64 0, .int .i64 0, .slice none 0 0] 49);have SS:=V NH;have Nn:=V (NH.below NG);have NF:=V (N6.below NG);have HA:=V (ha.ext (Ext.et NG));have HT:=V (kt.et (v:=⟨.slice av eu.length cv, .slice af ez.length cf,us⟩) (b:=b) NG);have HB:=V NG;have HC:=V hc;have HF:=V hf;have QI:=V PJ;have N2:=NH.jE.lt;have c0:World.cell? _ ⟨b,pre.length,none⟩=some (.slice av eu.length cv):=Nn.out.c0;have c1:World.cell? _ ⟨b,pre.length+1,none⟩=some (.slice af ez.length cf):=Nn.out.c1;clear NH N6 ha NG hc hf PJ hzl;by_cases q:32 <=ez.length
 ·have f1:decide ((32:Int) <=(ez.length:Int))=true:=ay (by omega)
  have f2:decide (32 <=ez.length)=true:=ay q;have HR:=V (show mO (ty.params++c.locals) ⟨eu,ez,asks⟩ fn args=(.full,⟨eu,ez,asks⟩)by unfold mO;rw [if_pos q]);clear q;go_enter func24,ntmps24;go_wp2_with fail;refine(Bt _).mono ?_;rintro e w2 ⟨rfl,hb⟩;replace HX:=V (HX.out.below hb HX.out.lt);replace Nn:=V (Nn.out.below hb);replace HT:=V (HT.out.below hb);clear hb c0 c1;obtain⟨⟨x0,x1,x2,x3⟩,z0,z1,z2,z3⟩:=HX.out.four;go_wp2_with fail;refine aF (eH rfl _ _ rfl (ln HX.out rfl 5 0 0 (.slice none 0 0))) rfl ?_;exact gq.mk HR.out Nn.out HT.out SS.out.yN (ei.nil _ _) (fun g hg=>by simp [eO,Value.ownBlock]at hg) (by simp [eO,Value.ownBlock]) 5 0 0 rfl rfl rfl
 ·have f1:decide ((32:Int) <=(ez.length:Int))=false:=aw (by omega)
  have f2:decide (32 <=ez.length)=false:=aw q;obtain⟨rest,NW⟩:∃rest,(ty.params++c.locals).drop args.length=rest:=⟨_,rfl⟩;have hrl:rest.length <=100000:=by rw [<- NW,bu,ah];omega
  have HR:=V (show mO (ty.params++c.locals) ⟨eu,ez,asks⟩ fn args=(.more,⟨eu,ez++[⟨fn,0,args++rest.map zv,eu.length,[]⟩],asks⟩)by unfold mO;rw [if_neg q,NW]);have hargl:args.length <=100000:=by rw [ah]at O4;omega
  have HRS:=V NW;have OU:=HR;clear q NW HR;go_enter func24,ntmps24;go_wp2_with fail;generalize(w.alloc (.cells #[.int .i64 0, .int .i64 0, .int .i64 0, .slice none 0 0] 49))=w2 at HX Nn NF HA HT HB c0 c1⊢;refine(lR _ args w2 HA.out (by omega)).mono ?_;rintro e w3 ⟨lv,rfl,TO,hb⟩;obtain⟨a3,c3,rfl,-,-⟩:=TO.slice;have Rs:=V TO;have TL:=V hb;clear TO hb f1 f2;go_wp2_with fail;refine(Dy w3 FX X iv m (NF.out.below TL.out) k c ty HC.out fn HF.out QI.out hk OT hl).mono ?_;rintro e w4 ⟨kv,rfl,hko,hb⟩;obtain⟨ks,hks⟩:∃ks,ty.params++c.locals=ks:=⟨_,rfl⟩;have HRK:=V HRS.out;rw [hks]at hko O4 HRK;obtain⟨ak,ck,dp,rfl,hckm,Nz,hrk⟩:=Ie hko args.length O4;have hrl2:ks.length - args.length=rest.length:=by rw [<- HRK.out,bu]
  clear hks;rw [hrl2]at Nz hrk;have HKO:=V (hko.lower (bg w3.heap.size));rw [HRK.out]at hrk;have HLO4:=V (Rs.out.below hb);have HB4:=V (TL.out.trans (hb.mono TL.out.size));have HRK:=V hrk;clear hko hb hrk hrl2 O4;go_wp2_with fail;clear Nz;refine eR (fun a' w'=>∃(i:Nat) (v:Value),a'=fr (.pointer (some ⟨X,0,none⟩):: .pointer (some ⟨b,pre.length,none⟩):: .int .i64 fn:: .slice aa args.length ca::gs a' 4 4 (.pointer (some ⟨w.heap.size,0,none⟩)::v::gs a' 10 16 (.slice dp rest.length (ck - args.length):: .int .i64 rest.length:: .int .i64 i::gs a' 29 27 [])))/\LR args (.slice ak ks.length ck) ks rest w2 w' v i) (fun a' _=>(rest.length - (intOf (a'.tmps.getD 28 undef)).toNat)) ?_ ?_
  ·exact⟨0,_,rfl,bg _,HKO.out,by simpa using HLO4.out,HB4.out⟩
  ·skip
   rintro R a' w1 ⟨i,v,Nm,hJ⟩ HR;dsimp only [fr,gs]at Nm;generalize slot a'=f at Nm;subst Nm;obtain⟨hi,hks,TO,hb⟩:=hJ;have HKS:=V hks;have HRW:=V (HRK.out w1 0 hks);have Rs:=V TO;have HB5:=V hb;obtain⟨a5,c5,Om,-,-⟩:=TO.slice;have QL:(args++(rest.take i).map zv).length=args.length+i:=by simp;omega
   rw [QL]at Om;subst Om;clear TO hb hks;by_cases q:i < rest.length
   ·obtain⟨x,hx⟩:∃x,rest[i]?=some x:=⟨_,aq q⟩
    obtain⟨bk,offk,capk,Om,-,-,hbkl,NA⟩:=eA.at HRW.out hx;injection Om with e1 e2 e3;subst e1;have y0:w1.cell? ⟨bk,offk+i,none⟩=some (.int .i64 x):=by
     have:=NA 0 _ rfl
     rwa [aW,aJ]at this
    have HXI:=V hx;have Oc:=HB5.out.size;clear hx NA e2 e3 hbkl;go_wp2_with (first | (at_builtin;refine fw w1 rfl _ _ 47 rfl _ 16 (by kernel_rfl) jB rfl (by decide) (by decide) w2.heap.size (.slice a5 (args.length+i) c5) (args++(rest.take i).map zv) rfl Rs.out (zv x) _ rfl rfl (lx _) rfl (by rw [QL];omega) Oc ?_));intro v6 w6 ho QY hs6;have HB6:=V (ep.vG HB5.out Rs.out (ag _) QY);have HK6:=V (HKS.out.keeps QY (fun g hg h=>ei.ne HKS.out Rs.out (by decide) g hg h));have HO6:=V ho;clear ho QY hs6;go_wp2;refine HR.out _ _ ⟨i+1,v6,rfl,by omega,HK6.out,?_,HB6.out⟩ ?_
    ·have h:=HO6.out
     rw [aR,HXI.out];simpa using h
    ·simp [intOf]
     omega
   ·obtain rfl:i=rest.length:=by omega
    obtain⟨L,hL⟩:∃L,args++(rest.take rest.length).map zv=L:=⟨_,rfl⟩;have HRL:=V (show mO (ty.params++c.locals) ⟨eu,ez,asks⟩ fn args=(.more,⟨eu,ez++[⟨fn,0,L,eu.length,[]⟩],asks⟩)by rw [OU.out, <- hL,aU]);rw [hL]at Rs QL;rw [<- QL]at Rs⊢;have HOL:=V (fun g (hg:eO (.slice a5 L.length c5) g)=>(eM Rs.out hg).1);have HLT:=V (fun g hg=>Nn.out.lt (g:=g) hg);have Pp:=HB5.out.drew;have HX7:=V (HX.out.below Pp HX.out.lt);have RC:=V (Nn.out.below Pp);have HT7:=V (HT.out.below Pp);have HL7:=V (show ei 52 2 fR w1.drew 0 (.slice a5 L.length c5) L from Rs.out.lower (bg _));have hS:w1.drew.cell? ⟨b,pre.length+1,none⟩=some (.slice af ez.length cf)/\w1.drew.cell? ⟨b,pre.length,none⟩=some (.slice av eu.length cv):=⟨RC.out.c1,RC.out.c0⟩;have Ov:=V HT.out.1.size;clear hL QL Pp c0 c1 HR HRW HKS HB5 Rs;go_wp2_with fail;refine eY (fun w'=>w'.cell? ⟨b,pre.length+1,none⟩=some (.slice af ez.length cf)/\w'.cell? ⟨b,pre.length,none⟩=some (.slice av eu.length cv)) 17 (up 0 13 ((13,false)::(14,false)::(15,true)::(16,true)::[])) (by kernel_rfl) (by kernel_rfl) hS ?_;clear hS;generalize w1.drew=w7 at HX7 RC HT7 HL7⊢;iterate 13 (first | (apply sk rfl rfl;simp only [pt]) | (apply eo rfl rfl rfl;·(rintro w' ⟨t0,t1⟩;go_wp2;exact⟨rfl,rfl,rfl⟩)))
    refine ew rfl rfl ?_;go_wp2_with fail;refine⟨⟨(RC.out.alloc _).c1,(RC.out.alloc _).c0⟩,?_⟩;refine ew rfl rfl ?_;have hzl:(ez.zip us).length=ez.length:=by rw [bV,RC.out.rows.len,cV]
    have HZL:=V hzl;clear hzl;go_wp2_with (first | (at_builtin;refine fw w7 rfl _ _ 58 rfl _ 72 (by kernel_rfl) nA rfl (by decide) (by decide) 0 (.slice af ez.length cf) (ez.zip us) rfl RC.out.ez ((⟨fn,0,L,eu.length,[]⟩:fg),((.slice a5 L.length c5:Value),(.slice none 0 0:Value))) _ rfl rfl (by intro z hz;simp only [mK,bx,bI,cH]at hz;rcases hz with rfl | rfl | rfl | rfl | rfl <;>rfl) rfl (by rw [HZL.out];omega) (bg _) ?_));intro v8 w8 ho hk hs;obtain⟨a8,c8,Om,-,-⟩:=ho.slice;rw [ah,HZL.out,aB]at Om;subst Om;have ND:=RC.out.DJ hk;have HP:=V (RC.out.FE (f:=⟨fn,0,L,eu.length,[]⟩) (u:=((.slice a5 L.length c5:Value),(.slice none 0 0:Value))) ⟨HL7.out,ei.nil _ _⟩
     (fun g hg h=>hg.elim (fun hg=>by have:=HOL.out g hg;have:=HLT.out g h;omega) (fun hg=>by simp [eO,Value.ownBlock]at hg))
     (fun g hg h=>hg.elim (fun hg=>by have:=HOL.out g hg;have:=HLT.out g (.inr (.inr (.inl h)));omega) (fun hg=>by simp [eO,Value.ownBlock]at hg)) ho hk hs)
    have c1:w8.cell? ⟨b,pre.length+1,none⟩=some (.slice af ez.length cf):=(ND.1.cell _).trans (BK _ _ _ _);have c0:w8.cell? ⟨b,pre.length,none⟩=some (.slice av eu.length cv):=(ND.1.cell _).trans (qo _ _ _ _);have z1:=ND.1.free (pre.length+1);have HX8:=V (HX7.out.keeps hk (fun hg=>ei.gF RC.out.ez HX7.out (by decide) _ hg rfl));clear ND hk hs ho;go_wp2_with fail;refine⟨⟨c1,c0⟩,?_⟩;iterate 2 (first | (apply sk rfl rfl;simp only [pt]) | (apply eo rfl rfl rfl;·(rintro w' ⟨t0,t1⟩;go_wp2;exact⟨rfl,rfl,rfl⟩)))
    refine fJ rfl rfl ?_;go_wp2;refine⟨trivial,?_⟩;refine aA ?_;clear c0 c1 z1;obtain⟨h1,h2,h3⟩:=HP.out;have HX9:=V (HX8.out.keeps (eE w8 b (pre.length+1) (.slice a8 (ez.length+1) c8)) (by omega));have HST9:=V h1;have HT9:=V (show kt _ ⟨.slice av eu.length cv, .slice a8 (ez.length+1) c8,us++[((.slice a5 L.length c5:Value),(.slice none 0 0:Value))]⟩ b w _ from⟨HT7.out.1.trans h2 (fun g hg=> .inl hg),fun g hg=>by
     rcases h3 g hg with h | (h | h) | h
     ·exact .inl h
     ·have:=HOL.out g h
      have:=Ov.out;exact .inr (by omega)
     ·simp [eO,Value.ownBlock]at h
     ·have:=HT7.out.1.size
      exact .inr (by omega)⟩)
    clear h1 h2 h3 HP;generalize w8.setCell ⟨b,pre.length+1,none⟩ (.slice a8 (ez.length+1) c8)=w9 at HX9 HST9 HT9⊢;go_wp2_with fail;refine(wD _).mono ?_;rintro e w10 ⟨rfl,hb⟩;replace HX9:=V (HX9.out.below hb HX9.out.lt);replace HST9:=V (HST9.out.below hb);replace HT9:=V (HT9.out.below hb);clear hb;obtain⟨⟨x0,x1,x2,x3⟩,z0,z1,z2,z3⟩:=HX9.out.four;go_wp2_with fail;refine aF (eH rfl _ _ rfl (ln HX9.out rfl 1 0 0 (.slice none 0 0))) rfl ?_;exact gq.mk HRL.out HST9.out HT9.out (HST9.out.not HX9.out (by omega) (by decide)) (ei.nil _ _) (fun g hg=>by simp [eO,Value.ownBlock]at hg) (by simp [eO,Value.ownBlock]) 1 0 0 rfl rfl rfl
end Go.Proofs.YtjmeglibedbljaaGreatDoor
