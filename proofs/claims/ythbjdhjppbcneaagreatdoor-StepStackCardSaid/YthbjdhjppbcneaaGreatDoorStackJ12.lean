import Derived.Test.YthbjdhjppbcneaaGreatDoorStackJ11
import Derived.Maps.OwnSet
namespace Go.Proofs.YthbjdhjppbcneaaGreatDoor
set_option maxRecDepth 100000
set_option maxHeartbeats 20000000
open Go.RowKit Tryz
open Lib renaming hid->V
set_option linter.all false
structure ze where
 table:List Int
 globals:List fb
def nI (w:World) (B X:Nat) (e:ze):Prop:=∃v v',eE w X #[v,v'] 147/\dR 3 1 eZ w B v e.table/\dR 42 2 gg w B v' e.globals
def gK (m:ew):ze:=⟨if m.table.has=true then List.replicate m.table.min.toNat (-1)else [],m.globals.map jb.init⟩
def E5 (m:ew) (w:World) (e:Ending) (w':World):Prop:=∃X,e= .returned (.pointer (some ⟨X,0,none⟩))/\nI w' w.heap.size X (gK m)/\w.heap.size <=X/\Below w.heap.size w w'
theorem xy (m:ew) (u:eB) (w:World) (hm:ej w u m) (ht:m.table.has=true ->0 <=m.table.min/\m.table.min <=1000) (hg:m.globals.length <=1000):Calls prog 29 #[.agg (u.cells m)] w (E5 m w):=by
 have HI:=V hm;obtain⟨a0,c0,a1,c1,a2,c2,a3,c3,a4,c4,a5,c5,a6,c6,a7,c7,rfl⟩:=ej.open hm;clear hm;simp only [eB.cells];have KK:=(an w.heap.size w).alloc (ag _) (.cells #[.slice a0 m.types.length c0, .slice a1 m.imports.length c1, .slice a2 m.funcs.length c2, .bool m.table.has, .int .i64 m.table.min, .int .i64 m.table.max, .bool m.mem.has, .int .i64 m.mem.min, .int .i64 m.mem.max, .slice a3 m.globals.length c3, .slice a4 m.dY.length c4, .slice a5 m.elems.length c5, .slice a6 m.eh.length c6, .slice a7 m.eA.length c7] 62);have HS:=V (KK.alloc (by rw [aE];omega) (.cells #[.slice none 0 0, .slice none 0 0] 147));have HX:=V ((eE.new w #[.slice a0 m.types.length c0, .slice a1 m.imports.length c1, .slice a2 m.funcs.length c2, .bool m.table.has, .int .i64 m.table.min, .int .i64 m.table.max, .bool m.mem.has, .int .i64 m.mem.min, .int .i64 m.mem.max, .slice a3 m.globals.length c3, .slice a4 m.dY.length c4, .slice a5 m.elems.length c5, .slice a6 m.eh.length c6, .slice a7 m.eA.length c7] 62).alloc (.cells #[.slice none 0 0, .slice none 0 0] 147));have hy:=eE.new (w.alloc (.cells #[.slice a0 m.types.length c0, .slice a1 m.imports.length c1, .slice a2 m.funcs.length c2, .bool m.table.has, .int .i64 m.table.min, .int .i64 m.table.max, .bool m.mem.has, .int .i64 m.mem.min, .int .i64 m.mem.max, .slice a3 m.globals.length c3, .slice a4 m.dY.length c4, .slice a5 m.elems.length c5, .slice a6 m.eh.length c6, .slice a7 m.eA.length c7] 62)) #[.slice none 0 0, .slice none 0 0] 147;rw [aE]at hy;have HY:=V hy;clear KK hy;obtain⟨has,hhas⟩:∃has,m.table.has=has:=⟨_,rfl⟩;rw [hhas]at HS HX HY ht⊢;cases has
 ·go_enter func29,ntmps29
  go_wp2_with fail;obtain⟨w5,OQ⟩:∃w5,w5=(w.alloc (.cells #[.slice a0 m.types.length c0, .slice a1 m.imports.length c1, .slice a2 m.funcs.length c2, .bool false, .int .i64 m.table.min, .int .i64 m.table.max, .bool m.mem.has, .int .i64 m.mem.min, .int .i64 m.mem.max, .slice a3 m.globals.length c3, .slice a4 m.dY.length c4, .slice a5 m.elems.length c5, .slice a6 m.eh.length c6, .slice a7 m.eA.length c7] 62)).alloc (.cells #[.slice none 0 0, .slice none 0 0] 147):=⟨_,rfl⟩;rw [<- OQ]at HS HX HY⊢;clear OQ;have HP:=V (show nI w5 w.heap.size (w.heap.size+1) ⟨[],[]⟩from⟨_,_,HY.out,dR.nil _ _,dR.nil _ _⟩);have HT:=V (show gK m=⟨[],m.globals.map jb.init⟩by unfold gK;rw [hhas];rfl);clear HX HY;refine ez (fun a' w'=>∃(i:Nat),a'=fr (gs a' 0 3 (.pointer (some ⟨w.heap.size+1,0,none⟩)::gs a' 4 17 (.slice a3 m.globals.length c3:: .int .i64 m.globals.length:: .int .i64 i::gs a' 24 16 [])))/\i <=m.globals.length/\nI w' w.heap.size (w.heap.size+1) ⟨[],(m.globals.take i).map jb.init⟩/\Below w.heap.size w w') (fun a' _=>(m.globals.length - (intOf (a'.tmps.getD 23 undef)).toNat)) ?_ ?_
  ·exact⟨0,rfl,bG _,HP.out,HS.out⟩
  ·skip
   rintro R a' w1 ⟨i,Kk,hJ⟩ HR;dsimp only [fr,gs]at Kk;generalize slot a'=f at Kk;subst Kk;obtain⟨hi,Qd,hb⟩:=hJ;have Qe:=V Qd;have HB:=V hb;clear Qd hb;by_cases q:i < m.globals.length;rotate_left
   ·obtain rfl:i=m.globals.length:=by omega
    go_wp2_with fail;go_ret;exact⟨_,rfl,by rw [HT.out];have:=Qe.out;rwa [aU]at this,by omega,HB.out⟩
   obtain⟨x,hx⟩:∃x,m.globals[i]?=some x:=⟨_,aq q⟩;have HXI:=V hx;obtain⟨_,_,hv,_,_,Kh⟩:=HI.out.2.2.2.1.ext (Ext.dV HB.out);injection hv with e1 e2 e3;subst e1;obtain⟨b,off,rfl,-,KH⟩:=Kh i x hx;have y0:=KH 0 _ rfl;have y1:=KH 1 _ rfl;have y2:=KH 2 _ rfl;rw [aK]at y0;obtain⟨gv,⟨gk,gn⟩⟩:=x;obtain⟨v,v',KD,Ns,KB⟩:=Qe.out;have Pr:((m.globals.take i).map jb.init).length=i:=by rw [bz,aR];omega
   obtain⟨av,cv,Ls,-,-⟩:=KB.slice;rw [Pr]at Ls;subst Ls;have Kw:=(an w1.heap.size w1).alloc (ag _) (.cells #[.bool gv, .int .i64 gk, .int .i64 gn] 120);have HG:=V (eE.new w1 #[.bool gv, .int .i64 gk, .int .i64 gn] 120).drew;have LA:=V (KD.below Kw KD.lt).drew;have Mb:=V (show dR _ _ _ (w1.alloc (.cells #[.bool gv, .int .i64 gk, .int .i64 gn] 120)).drew _ _ _ from Ns.below Kw.drew);have Ld:=V (show dR _ _ _ (w1.alloc (.cells #[.bool gv, .int .i64 gk, .int .i64 gn] 120)).drew _ _ _ from KB.below Kw.drew);have KR:=V (HB.out.trans (Kw.mono HB.out.size)).drew;have s1:World.cell? _ ⟨w.heap.size+1,1,none⟩=some (.slice av i cv):=LA.out.cell 1;have s2:World.cell? _ ⟨w1.heap.size,1,none⟩=some (.int .i64 gk):=HG.out.cell 1;have s3:World.cell? _ ⟨w1.heap.size,2,none⟩=some (.int .i64 gn):=HG.out.cell 2;clear e2 e3 Kh KH hx KD Ns KB Kw;go_wp2_with fail;refine eP (fun w'=>w'.cell? ⟨w.heap.size+1,1,none⟩=some (.slice av i cv)/\w'.cell? ⟨w1.heap.size,1,none⟩=some (.int .i64 gk)/\w'.cell? ⟨w1.heap.size,2,none⟩=some (.int .i64 gn)) 11 (up 0 7 ((7,false)::(8,false)::(9,true)::(10,true)::[])) (by kernel_rfl) (by kernel_rfl) ⟨s1,s2,s3⟩ ?_;clear s1 s2 s3 y0 y1 y2;generalize(w1.alloc (.cells #[.bool gv, .int .i64 gk, .int .i64 gn] 120)).drew=w2 at HG LA Mb Ld KR⊢;iterate 7 (first | (apply sk rfl rfl;simp only [pt]) | (apply dT rfl rfl rfl;·(rintro w' ⟨t0,t1,t2⟩;go_wp2;exact⟨rfl,rfl,rfl⟩)))
   refine dZ rfl rfl ?_;go_wp2_with fail;refine⟨⟨(LA.out.alloc _).cell 1,(HG.out.alloc _).cell 1,(HG.out.alloc _).cell 2⟩,?_⟩;refine dZ rfl rfl ?_;go_wp2_with (first | (at_builtin;refine eQ w2 rfl _ _ 30 rfl _ 16 (by kernel_rfl) kZ rfl (by decide) (by decide) w.heap.size (.slice av i cv) ((m.globals.take i).map jb.init) rfl Ld.out (⟨gk,gn⟩:fb) _ rfl rfl (lI _) rfl (by rw [Pr];omega) KR.out.size ?_));intro v2 w3 Lq KS LS;obtain⟨a3',c3',Ls,-,-⟩:=Lq.slice;replace Ls:v2= .slice a3' (i+1) c3':=by rw [Ls];congr 1;simp;omega
   subst Ls;have hnb:=dR.gw Ld.out LA.out (by decide);have hng:=dR.gw Ld.out HG.out (by decide);replace LA:=V (LA.out.keeps KS (fun h=>hnb _ h rfl));replace HG:=V (HG.out.keeps KS (fun h=>hng _ h rfl));replace Mb:=V (Mb.out.keeps KS (fun i hi=>dR.ne Mb.out Ld.out (by decide) i hi));replace KR:=V (KR.out.trans (KS.below KR.out.size (fun i hi=>(eo Ld.out hi).1)));replace Ld:=V Lq;clear hnb hng KS LS Lq;go_wp2_with fail;refine⟨⟨LA.out.cell 1,HG.out.cell 1,HG.out.cell 2⟩,?_⟩;iterate 2 (first | (apply sk rfl rfl;simp only [pt]) | (apply dT rfl rfl rfl;·(rintro w' ⟨t0,t1,t2⟩;go_wp2;exact⟨rfl,rfl,rfl⟩)))
   refine fI rfl rfl ?_;have c1:w3.cell? ⟨w.heap.size+1,1,none⟩=some (.slice av i cv):=LA.out.cell 1;have z1:=LA.out.free 1;go_wp2_with fail;refine⟨trivial,?_⟩;refine aD ?_;clear c1 z1;go_wp2_with fail;have Km:=ep w3 (w.heap.size+1) 1 (.slice a3' (i+1) c3');refine HR.out _ _ ⟨i+1,rfl,by omega,⟨_,_,LA.out.set 1 _,Mb.out.keeps Km (dR.gw Mb.out LA.out (by decide)),?_⟩,KR.out.trans (Km.below KR.out.size (fun i hi=>by omega))⟩ ?_
   ·rw [aQ,HXI.out,cg,dP]
    exact Ld.out.keeps Km (dR.gw Ld.out LA.out (by decide))
   ·simp [intOf]
    omega
 ·obtain⟨n,hn⟩:∃n:Nat,m.table.min=n:=⟨m.table.min.toNat,by have:=(ht rfl).1;omega⟩
  have hn2:n <=1000:=by have:=(ht rfl).2;omega
  rw [hn]at HS HX HY⊢;rcases aY n with hz | O0
  ·subst hz
   have e0:((0:Nat):Int)=0:=rfl;rw [e0]at HS HX HY⊢;go_enter func29,ntmps29;go_wp2_with fail;obtain⟨wA,OQ⟩:∃wA,wA=(w.alloc (.cells #[.slice a0 m.types.length c0, .slice a1 m.imports.length c1, .slice a2 m.funcs.length c2, .bool true, .int .i64 0, .int .i64 m.table.max, .bool m.mem.has, .int .i64 m.mem.min, .int .i64 m.mem.max, .slice a3 m.globals.length c3, .slice a4 m.dY.length c4, .slice a5 m.elems.length c5, .slice a6 m.eh.length c6, .slice a7 m.eA.length c7] 62)).alloc (.cells #[.slice none 0 0, .slice none 0 0] 147):=⟨_,rfl⟩;rw [<- OQ]at HS HX HY⊢;have hAS:wA.heap.size=w.heap.size+2:=by rw [OQ];simp
   clear OQ;have K4:=(an wA.heap.size wA).alloc (ag _) (.cells #[.int .i64 (-1)] 3);have Lq:dR 3 1 eZ (wA.alloc (.cells #[.int .i64 (-1)] 3)) wA.heap.size (.slice (some ⟨wA.heap.size,0,none⟩) 1 1) [-1]:=⟨by simp [eZ], .inr ⟨wA.heap.size,1,_,rfl,ag _,eE.new wA _ _,by simp,by simp [maxLen],by simp,by simp [eZ]⟩⟩;have hi3:=Lq.fD fp;rw [hAS]at hi3;refine(qj _ 1 (-1) 0 (by omega) _ hi3).mono ?_;rintro e w4 ⟨g,rfl,ho,hb⟩;have Md:=K4.trans (hb.mono K4.size);have HY4:=V (HY.out.below Md HY.out.lt);replace HX:=V (HX.out.below Md HX.out.lt);replace HS:=V (HS.out.trans (Md.mono HS.out.size));have QJ:wA.heap.size <=(wA.alloc (.cells #[.int .i64 (-1)] 3)).heap.size:=K4.size;have HO:=V (ho.lower (show w.heap.size <=_ by omega));clear hb K4 Md ho Lq hi3 QJ;have y0:=HY4.out.two.1;have z0:=HY4.out.two.2.2.1;obtain⟨g0,g1,g2,g3,g4,g5,g6,g7,g8,g9,KY,KZ,K0,K3⟩:=HX.out.mod;go_wp2_with fail;clear g0 g1 g2 g3 g4 g5 g6 g7 g8 g9 KY KZ K0 K3 y0 z0;have Km:=ep w4 (w.heap.size+1) 0 (.slice (some ⟨g,0,none⟩) 0 0);replace HS:=V (HS.out.trans (Km.below HS.out.size (fun i hi=>by omega)));have HP:=V (show nI _ w.heap.size (w.heap.size+1) ⟨List.replicate 0 (-1),[]⟩from⟨_,_,HY4.out.set 0 (.slice (some ⟨g,0,none⟩) 0 0),HO.out.keeps Km (dR.gw HO.out HY4.out (by decide)),dR.nil _ _⟩);have HT:=V (show gK m=⟨List.replicate 0 (-1),m.globals.map jb.init⟩by unfold gK;rw [hhas,hn];rfl);clear Km HO HY4 HX;generalize w4.setCell ⟨w.heap.size+1,0,none⟩ (.slice (some ⟨g,0,none⟩) 0 0)=w5 at HS HP⊢;refine ez (fun a' w'=>∃(i:Nat),a'=fr (gs a' 0 3 (.pointer (some ⟨w.heap.size+1,0,none⟩)::gs a' 4 17 (.slice a3 m.globals.length c3:: .int .i64 m.globals.length:: .int .i64 i::gs a' 24 16 [])))/\i <=m.globals.length/\nI w' w.heap.size (w.heap.size+1) ⟨List.replicate 0 (-1),(m.globals.take i).map jb.init⟩/\Below w.heap.size w w') (fun a' _=>(m.globals.length - (intOf (a'.tmps.getD 23 undef)).toNat)) ?_ ?_
   ·exact⟨0,rfl,bG _,HP.out,HS.out⟩
   ·skip
    rintro R a' w1 ⟨i,Kk,hJ⟩ HR;dsimp only [fr,gs]at Kk;generalize slot a'=f at Kk;subst Kk;obtain⟨hi,Qd,hb⟩:=hJ;have Qe:=V Qd;have HB:=V hb;clear Qd hb;by_cases q:i < m.globals.length;rotate_left
    ·obtain rfl:i=m.globals.length:=by omega
     go_wp2_with fail;go_ret;exact⟨_,rfl,by rw [HT.out];have:=Qe.out;rwa [aU]at this,by omega,HB.out⟩
    obtain⟨x,hx⟩:∃x,m.globals[i]?=some x:=⟨_,aq q⟩;have HXI:=V hx;obtain⟨_,_,hv,_,_,Kh⟩:=HI.out.2.2.2.1.ext (Ext.dV HB.out);injection hv with e1 e2 e3;subst e1;obtain⟨b,off,rfl,-,KH⟩:=Kh i x hx;have y0:=KH 0 _ rfl;have y1:=KH 1 _ rfl;have y2:=KH 2 _ rfl;rw [aK]at y0;obtain⟨gv,⟨gk,gn⟩⟩:=x;obtain⟨v,v',KD,Ns,KB⟩:=Qe.out;have Pr:((m.globals.take i).map jb.init).length=i:=by rw [bz,aR];omega
    obtain⟨av,cv,Ls,-,-⟩:=KB.slice;rw [Pr]at Ls;subst Ls;have Kw:=(an w1.heap.size w1).alloc (ag _) (.cells #[.bool gv, .int .i64 gk, .int .i64 gn] 120);have HG:=V (eE.new w1 #[.bool gv, .int .i64 gk, .int .i64 gn] 120).drew;have LA:=V (KD.below Kw KD.lt).drew;have Mb:=V (show dR _ _ _ (w1.alloc (.cells #[.bool gv, .int .i64 gk, .int .i64 gn] 120)).drew _ _ _ from Ns.below Kw.drew);have Ld:=V (show dR _ _ _ (w1.alloc (.cells #[.bool gv, .int .i64 gk, .int .i64 gn] 120)).drew _ _ _ from KB.below Kw.drew);have KR:=V (HB.out.trans (Kw.mono HB.out.size)).drew;have s1:World.cell? _ ⟨w.heap.size+1,1,none⟩=some (.slice av i cv):=LA.out.cell 1;have s2:World.cell? _ ⟨w1.heap.size,1,none⟩=some (.int .i64 gk):=HG.out.cell 1;have s3:World.cell? _ ⟨w1.heap.size,2,none⟩=some (.int .i64 gn):=HG.out.cell 2;clear e2 e3 Kh KH hx KD Ns KB Kw;go_wp2_with fail;refine eP (fun w'=>w'.cell? ⟨w.heap.size+1,1,none⟩=some (.slice av i cv)/\w'.cell? ⟨w1.heap.size,1,none⟩=some (.int .i64 gk)/\w'.cell? ⟨w1.heap.size,2,none⟩=some (.int .i64 gn)) 11 (up 0 7 ((7,false)::(8,false)::(9,true)::(10,true)::[])) (by kernel_rfl) (by kernel_rfl) ⟨s1,s2,s3⟩ ?_;clear s1 s2 s3 y0 y1 y2;generalize(w1.alloc (.cells #[.bool gv, .int .i64 gk, .int .i64 gn] 120)).drew=w2 at HG LA Mb Ld KR⊢;iterate 7 (first | (apply sk rfl rfl;simp only [pt]) | (apply dT rfl rfl rfl;·(rintro w' ⟨t0,t1,t2⟩;go_wp2;exact⟨rfl,rfl,rfl⟩)))
    refine dZ rfl rfl ?_;go_wp2_with fail;refine⟨⟨(LA.out.alloc _).cell 1,(HG.out.alloc _).cell 1,(HG.out.alloc _).cell 2⟩,?_⟩;refine dZ rfl rfl ?_;go_wp2_with (first | (at_builtin;refine eQ w2 rfl _ _ 30 rfl _ 16 (by kernel_rfl) kZ rfl (by decide) (by decide) w.heap.size (.slice av i cv) ((m.globals.take i).map jb.init) rfl Ld.out (⟨gk,gn⟩:fb) _ rfl rfl (lI _) rfl (by rw [Pr];omega) KR.out.size ?_));intro v2 w3 Lq KS LS;obtain⟨a3',c3',Ls,-,-⟩:=Lq.slice;replace Ls:v2= .slice a3' (i+1) c3':=by rw [Ls];congr 1;simp;omega
    subst Ls;have hnb:=dR.gw Ld.out LA.out (by decide);have hng:=dR.gw Ld.out HG.out (by decide);replace LA:=V (LA.out.keeps KS (fun h=>hnb _ h rfl));replace HG:=V (HG.out.keeps KS (fun h=>hng _ h rfl));replace Mb:=V (Mb.out.keeps KS (fun i hi=>dR.ne Mb.out Ld.out (by decide) i hi));replace KR:=V (KR.out.trans (KS.below KR.out.size (fun i hi=>(eo Ld.out hi).1)));replace Ld:=V Lq;clear hnb hng KS LS Lq;go_wp2_with fail;refine⟨⟨LA.out.cell 1,HG.out.cell 1,HG.out.cell 2⟩,?_⟩;iterate 2 (first | (apply sk rfl rfl;simp only [pt]) | (apply dT rfl rfl rfl;·(rintro w' ⟨t0,t1,t2⟩;go_wp2;exact⟨rfl,rfl,rfl⟩)))
    refine fI rfl rfl ?_;have c1:w3.cell? ⟨w.heap.size+1,1,none⟩=some (.slice av i cv):=LA.out.cell 1;have z1:=LA.out.free 1;go_wp2_with fail;refine⟨trivial,?_⟩;refine aD ?_;clear c1 z1;go_wp2_with fail;have Km:=ep w3 (w.heap.size+1) 1 (.slice a3' (i+1) c3');refine HR.out _ _ ⟨i+1,rfl,by omega,⟨_,_,LA.out.set 1 _,Mb.out.keeps Km (dR.gw Mb.out LA.out (by decide)),?_⟩,KR.out.trans (Km.below KR.out.size (fun i hi=>by omega))⟩ ?_
    ·rw [aQ,HXI.out,cg,dP]
     exact Ld.out.keeps Km (dR.gw Ld.out LA.out (by decide))
    ·simp [intOf]
     omega
  ·skip
   go_enter func29,ntmps29;go_wp2_with fail;obtain⟨wA,OQ⟩:∃wA,wA=(w.alloc (.cells #[.slice a0 m.types.length c0, .slice a1 m.imports.length c1, .slice a2 m.funcs.length c2, .bool true, .int .i64 n, .int .i64 m.table.max, .bool m.mem.has, .int .i64 m.mem.min, .int .i64 m.mem.max, .slice a3 m.globals.length c3, .slice a4 m.dY.length c4, .slice a5 m.elems.length c5, .slice a6 m.eh.length c6, .slice a7 m.eA.length c7] 62)).alloc (.cells #[.slice none 0 0, .slice none 0 0] 147):=⟨_,rfl⟩;rw [<- OQ]at HS HX HY⊢;have hAS:wA.heap.size=w.heap.size+2:=by rw [OQ];simp
   clear OQ;have K4:=(an wA.heap.size wA).alloc (ag _) (.cells #[.int .i64 (-1)] 3);have Lq:dR 3 1 eZ (wA.alloc (.cells #[.int .i64 (-1)] 3)) wA.heap.size (.slice (some ⟨wA.heap.size,0,none⟩) 1 1) [-1]:=⟨by simp [eZ], .inr ⟨wA.heap.size,1,_,rfl,ag _,eE.new wA _ _,by simp,by simp [maxLen],by simp,by simp [eZ]⟩⟩;have hi3:=Lq.fD fp;rw [hAS]at hi3;refine(qj _ 1 (-1) n (by omega) _ hi3).mono ?_;rintro e w4 ⟨g,rfl,ho,hb⟩;have Md:=K4.trans (hb.mono K4.size);have HY4:=V (HY.out.below Md HY.out.lt);replace HX:=V (HX.out.below Md HX.out.lt);replace HS:=V (HS.out.trans (Md.mono HS.out.size));have QJ:wA.heap.size <=(wA.alloc (.cells #[.int .i64 (-1)] 3)).heap.size:=K4.size;have HO:=V (ho.lower (show w.heap.size <=_ by omega));clear hb K4 Md ho Lq hi3 QJ;have y0:=HY4.out.two.1;have z0:=HY4.out.two.2.2.1;obtain⟨g0,g1,g2,g3,g4,g5,g6,g7,g8,g9,KY,KZ,K0,K3⟩:=HX.out.mod;go_wp2_with fail;clear g0 g1 g2 g3 g4 g5 g6 g7 g8 g9 KY KZ K0 K3 y0 z0;have Km:=ep w4 (w.heap.size+1) 0 (.slice (some ⟨g,0,none⟩) n n);replace HS:=V (HS.out.trans (Km.below HS.out.size (fun i hi=>by omega)));have HP:=V (show nI _ w.heap.size (w.heap.size+1) ⟨List.replicate n (-1),[]⟩from⟨_,_,HY4.out.set 0 (.slice (some ⟨g,0,none⟩) n n),HO.out.keeps Km (dR.gw HO.out HY4.out (by decide)),dR.nil _ _⟩);have HT:=V (show gK m=⟨List.replicate n (-1),m.globals.map jb.init⟩by unfold gK;rw [hhas,hn];rfl);clear Km HO HY4 HX;generalize w4.setCell ⟨w.heap.size+1,0,none⟩ (.slice (some ⟨g,0,none⟩) n n)=w5 at HS HP⊢;refine ez (fun a' w'=>∃(i:Nat),a'=fr (gs a' 0 3 (.pointer (some ⟨w.heap.size+1,0,none⟩)::gs a' 4 17 (.slice a3 m.globals.length c3:: .int .i64 m.globals.length:: .int .i64 i::gs a' 24 16 [])))/\i <=m.globals.length/\nI w' w.heap.size (w.heap.size+1) ⟨List.replicate n (-1),(m.globals.take i).map jb.init⟩/\Below w.heap.size w w') (fun a' _=>(m.globals.length - (intOf (a'.tmps.getD 23 undef)).toNat)) ?_ ?_
   ·exact⟨0,rfl,bG _,HP.out,HS.out⟩
   ·skip
    rintro R a' w1 ⟨i,Kk,hJ⟩ HR;dsimp only [fr,gs]at Kk;generalize slot a'=f at Kk;subst Kk;obtain⟨hi,Qd,hb⟩:=hJ;have Qe:=V Qd;have HB:=V hb;clear Qd hb;by_cases q:i < m.globals.length;rotate_left
    ·obtain rfl:i=m.globals.length:=by omega
     go_wp2_with fail;go_ret;exact⟨_,rfl,by rw [HT.out];have:=Qe.out;rwa [aU]at this,by omega,HB.out⟩
    obtain⟨x,hx⟩:∃x,m.globals[i]?=some x:=⟨_,aq q⟩;have HXI:=V hx;obtain⟨_,_,hv,_,_,Kh⟩:=HI.out.2.2.2.1.ext (Ext.dV HB.out);injection hv with e1 e2 e3;subst e1;obtain⟨b,off,rfl,-,KH⟩:=Kh i x hx;have y0:=KH 0 _ rfl;have y1:=KH 1 _ rfl;have y2:=KH 2 _ rfl;rw [aK]at y0;obtain⟨gv,⟨gk,gn⟩⟩:=x;obtain⟨v,v',KD,Ns,KB⟩:=Qe.out;have Pr:((m.globals.take i).map jb.init).length=i:=by rw [bz,aR];omega
    obtain⟨av,cv,Ls,-,-⟩:=KB.slice;rw [Pr]at Ls;subst Ls;have Kw:=(an w1.heap.size w1).alloc (ag _) (.cells #[.bool gv, .int .i64 gk, .int .i64 gn] 120);have HG:=V (eE.new w1 #[.bool gv, .int .i64 gk, .int .i64 gn] 120).drew;have LA:=V (KD.below Kw KD.lt).drew;have Mb:=V (show dR _ _ _ (w1.alloc (.cells #[.bool gv, .int .i64 gk, .int .i64 gn] 120)).drew _ _ _ from Ns.below Kw.drew);have Ld:=V (show dR _ _ _ (w1.alloc (.cells #[.bool gv, .int .i64 gk, .int .i64 gn] 120)).drew _ _ _ from KB.below Kw.drew);have KR:=V (HB.out.trans (Kw.mono HB.out.size)).drew;have s1:World.cell? _ ⟨w.heap.size+1,1,none⟩=some (.slice av i cv):=LA.out.cell 1;have s2:World.cell? _ ⟨w1.heap.size,1,none⟩=some (.int .i64 gk):=HG.out.cell 1;have s3:World.cell? _ ⟨w1.heap.size,2,none⟩=some (.int .i64 gn):=HG.out.cell 2;clear e2 e3 Kh KH hx KD Ns KB Kw;go_wp2_with fail;refine eP (fun w'=>w'.cell? ⟨w.heap.size+1,1,none⟩=some (.slice av i cv)/\w'.cell? ⟨w1.heap.size,1,none⟩=some (.int .i64 gk)/\w'.cell? ⟨w1.heap.size,2,none⟩=some (.int .i64 gn)) 11 (up 0 7 ((7,false)::(8,false)::(9,true)::(10,true)::[])) (by kernel_rfl) (by kernel_rfl) ⟨s1,s2,s3⟩ ?_;clear s1 s2 s3 y0 y1 y2;generalize(w1.alloc (.cells #[.bool gv, .int .i64 gk, .int .i64 gn] 120)).drew=w2 at HG LA Mb Ld KR⊢;iterate 7 (first | (apply sk rfl rfl;simp only [pt]) | (apply dT rfl rfl rfl;·(rintro w' ⟨t0,t1,t2⟩;go_wp2;exact⟨rfl,rfl,rfl⟩)))
    refine dZ rfl rfl ?_;go_wp2_with fail;refine⟨⟨(LA.out.alloc _).cell 1,(HG.out.alloc _).cell 1,(HG.out.alloc _).cell 2⟩,?_⟩;refine dZ rfl rfl ?_;go_wp2_with (first | (at_builtin;refine eQ w2 rfl _ _ 30 rfl _ 16 (by kernel_rfl) kZ rfl (by decide) (by decide) w.heap.size (.slice av i cv) ((m.globals.take i).map jb.init) rfl Ld.out (⟨gk,gn⟩:fb) _ rfl rfl (lI _) rfl (by rw [Pr];omega) KR.out.size ?_));intro v2 w3 Lq KS LS;obtain⟨a3',c3',Ls,-,-⟩:=Lq.slice;replace Ls:v2= .slice a3' (i+1) c3':=by rw [Ls];congr 1;simp;omega
    subst Ls;have hnb:=dR.gw Ld.out LA.out (by decide);have hng:=dR.gw Ld.out HG.out (by decide);replace LA:=V (LA.out.keeps KS (fun h=>hnb _ h rfl));replace HG:=V (HG.out.keeps KS (fun h=>hng _ h rfl));replace Mb:=V (Mb.out.keeps KS (fun i hi=>dR.ne Mb.out Ld.out (by decide) i hi));replace KR:=V (KR.out.trans (KS.below KR.out.size (fun i hi=>(eo Ld.out hi).1)));replace Ld:=V Lq;clear hnb hng KS LS Lq;go_wp2_with fail;refine⟨⟨LA.out.cell 1,HG.out.cell 1,HG.out.cell 2⟩,?_⟩;iterate 2 (first | (apply sk rfl rfl;simp only [pt]) | (apply dT rfl rfl rfl;·(rintro w' ⟨t0,t1,t2⟩;go_wp2;exact⟨rfl,rfl,rfl⟩)))
    refine fI rfl rfl ?_;have c1:w3.cell? ⟨w.heap.size+1,1,none⟩=some (.slice av i cv):=LA.out.cell 1;have z1:=LA.out.free 1;go_wp2_with fail;refine⟨trivial,?_⟩;refine aD ?_;clear c1 z1;go_wp2_with fail;have Km:=ep w3 (w.heap.size+1) 1 (.slice a3' (i+1) c3');refine HR.out _ _ ⟨i+1,rfl,by omega,⟨_,_,LA.out.set 1 _,Mb.out.keeps Km (dR.gw Mb.out LA.out (by decide)),?_⟩,KR.out.trans (Km.below KR.out.size (fun i hi=>by omega))⟩ ?_
    ·rw [aQ,HXI.out,cg,dP]
     exact Ld.out.keeps Km (dR.gw Ld.out LA.out (by decide))
    ·simp [intOf]
     omega
theorem oK (a:Option Addr) (len cap:Nat) (h2:len <=cap) (ha:a=none ->cap=0):
  ∃dp,∀wx,(Instr.slice 25 (.slice a len cap) (some (.int .i64 len)) none none).run prog wx= .ok (.slice dp 0 (cap - len)) wx:=by
 have hu:prog.underlying 25=some (.slice 3):=by kernel_rfl
 obtain⟨i0,hi,MY,LG,Mm⟩:=cd jH;cases a with
 | none=>
  have:=ha rfl;subst this;obtain rfl:len=0:=by omega
  exact⟨none,fun wx=>by simp [Instr.slice,bo hu,Instr.sliceBounds,Instr.sliceBound,sizeOf,typeInfo,hi,asIntOf,Addr.add]⟩
 | some a=>
  by_cases q:cap=len
  ·exact⟨some a,fun wx=>by simp [Instr.slice,bo hu,Instr.sliceBounds,Instr.sliceBound,sizeOf,typeInfo,hi,asIntOf,Addr.add,q]⟩
  ·exact⟨some (a.add len),fun wx=>by simp [Instr.slice,bo hu,Instr.sliceBounds,Instr.sliceBound,sizeOf,typeInfo,hi,LG,asIntOf,Addr.add,q]⟩
theorem H8 (l:List Int):l.flatMap eZ=l.map (Value.int .i64):=by
 induction l with
 | nil=>rfl
 | cons x l ih=>rw [bR,ih];rfl
theorem zc {α:Type} (cur T fs:List α) (k len:Nat) (ht:cur.take len=T) (hl:k+fs.length <=len) (hT:T.length=len):(cur.take k++(fs++cur.drop (k+fs.length))).take len=T.take k++fs++T.drop (k+fs.length):=by
 have hc:len <=cur.length:=by rw [<- ht,aR]at hT;omega
 have h1:T.take k=cur.take k:=by rw [<- ht,List.take_take,cJ (by omega)]
 have h2:T.drop (k+fs.length)=(cur.drop (k+fs.length)).take (len - (k+fs.length)):=by rw [<- ht,List.drop_take]
 rw [h1,h2,List.take_append,List.take_append,aP,aR,cJ (by omega),dd (by rw [aR];omega),dd (l:=fs) (by omega),show len - k - fs.length=len - (k+fs.length)by omega]
theorem zb (w:World) (g:Nat) (cs:Array Value):dS (fun i=>i=g) w (w.setRow g cs):=⟨rfl,rfl,rfl,by simp [World.setRow],fun k _ hk=>setRow_other w g k cs hk⟩
def iK (e:ze) (off:Int) (fs:List Int):Option ze:=
 if off < 0\/(e.table.length:Int) - fs.length < off then none else some {e with table:=e.table.take off.toNat++fs++e.table.drop (off.toNat+fs.length)}
def Fm (w:World) (B:Nat) (i:Nat):Prop:=B <=i/\∃xs,eE w i xs 3
def GV (B X:Nat) (e:ze) (off:Int) (fs:List Int) (w:World) (en:Ending) (w':World):Prop:=
 en= .returned (.bool (iK e off fs).isSome)/\nI w' B X ((iK e off fs).getD e)/\dS (Fm w B) w w'
theorem xk (w:World) (B X:Nat) (e:ze) (fv:Value) (off:Int) (fs:List Int) (h:nI w B X e) (hf:ee 1 eZ w fv fs):Calls prog 30 #[.pointer (some ⟨X,0,none⟩), .int .i64 off,fv] w (GV B X e off fs w):=by
 have Qe:=V h;obtain⟨v,v',hx,Ns,KB⟩:=h;obtain⟨av,cv,rfl,LC,Mr⟩:=Ns.slice;obtain⟨af,cf,rfl,O6,hcfm⟩:=eT hf;have x0:w.cell? ⟨X,0,none⟩=some (.slice av e.table.length cv):=hx.cell 0;have HFS:=V hf;have HX:=V hx;have Mb:=V Ns;have Ld:=V KB;clear hf hx Ns KB;by_cases q1:off < 0
 ·have f1:decide (off < 0)=true:=az q1
  have HE:=V (show iK e off fs=none by unfold iK;rw [if_pos (.inl q1)]);go_enter func30,ntmps30;go_wp2_with fail;go_ret;exact⟨by rw [HE.out];rfl,by rw [HE.out];exact Qe.out,dS.refl _ _⟩
 have f1:decide (off < 0)=false:=aA q1;by_cases q2:(e.table.length:Int) - fs.length < off
 ·have f2:decide ((e.table.length:Int) - (fs.length:Int) < off)=true:=az q2
  have HE:=V (show iK e off fs=none by unfold iK;rw [if_pos (.inr q2)]);go_enter func30,ntmps30;go_wp2_with fail;go_ret;exact⟨by rw [HE.out];rfl,by rw [HE.out];exact Qe.out,dS.refl _ _⟩
 have f2:decide ((e.table.length:Int) - (fs.length:Int) < off)=false:=aA q2;obtain⟨k,rfl⟩:∃k:Nat,off=k:=⟨off.toNat,by omega⟩;have Lg:k+fs.length <=e.table.length:=by omega
 have HE:=V (show iK e k fs=some {e with table:=e.table.take k++fs++e.table.drop (k+fs.length)}by unfold iK;rw [if_neg (by omega),Int.toNat_natCast]);have NJ:cv <=9223372036854775807:=Mr;clear q1 q2;by_cases q:fs.length=0
 ·have hE:iK e k fs=some e:=by
   rw [HE.out,aH q,bW,aM,aK,cF]
  obtain⟨dp,LV⟩:∃dp,∀wx,(Instr.slice 25 (.slice av e.table.length cv) (some (.int .i64 k)) none none).run prog wx= .ok (.slice dp (e.table.length - k) (cv - k)) wx:=by
   by_cases ql:k < e.table.length
   ·obtain⟨g,cap,cur,hv,-⟩:=Mb.out.open (by intro h;rw [h]at ql;simp at ql)
    injection hv with e1 e2 e3;subst e1;exact⟨_,fun wx=>kg g _ cv k ql LC wx⟩
   ·obtain rfl:k=e.table.length:=by omega
    have ha:av=none ->cv=0:=by
     intro h;obtain⟨_,hv | ⟨g,cap,cur,hv,-⟩⟩:=Mb.out
     ·have:=hv.1
      injection this
     ·rw [h]at hv
      injection hv with e1;cases e1
    obtain⟨dp,h⟩:=oK av e.table.length cv LC ha;exact⟨dp,fun wx=>by rw [h wx,Nat.sub_self]⟩
  have HE2:=V hE;clear hE HE;go_enter func30,ntmps30;go_wp2_with (first | (refine wpList_copy_nothing rfl (.tmp 30) (.tmp 31) 25 25 rfl 3 (by kernel_rfl) (by kernel_rfl) dp af (e.table.length - k) (cv - k) fs.length cf rfl rfl (by rw [q];exact Nat.zero_min _) ?_));go_ret;exact⟨by rw [HE2.out];rfl,by rw [HE2.out];exact Qe.out,dS.refl _ _⟩
 have Mf:e.table≠[]:=by
  intro h;rw [h,aM]at Lg;omega
 obtain⟨hlen,hv | ⟨g,cap,cur,hv,hBg,hg,hn,hm,Lf,ht⟩⟩:=id Mb.out
 ·exact absurd (aH hv.2) Mf
 injection hv with e1 e2 e3;subst e1 e3;rw [bj]at Lf ht;rw [H8]at ht;obtain⟨_,_,hvf,_,_,Kh⟩:=HFS.out;injection hvf with e1 e3 e4;subst e1;have hf0:0 < fs.length:=by omega
 obtain⟨bf,off,rfl,hltf,-⟩:=Kh 0 _ (aq hf0);have hsrc:∀j v,(fs.map (Value.int .i64))[j]?=some v ->w.cell? (Addr.add ⟨bf,off,none⟩ j)=some v:=by
  intro j v hj;rw [cn]at hj;cases hx:fs[j]? with
  | none=>rw [hx]at hj;cases hj
  | some y=>
   rw [hx]at hj;injection hj with hj;subst hj;obtain⟨b',off',Pn,-,hc⟩:=Kh j y hx;injection Pn with Pn;injection Pn with h1 h2;subst h1 h2;have:=hc 0 _ rfl;rw [aK,bj]at this;by_cases hj0:j=0
   ·subst hj0
    simpa [Addr.add] using this
   ·simpa [Addr.add,hj0] using this
 have LV:=fun wx=>kg g e.table.length cv k (by omega) LC wx;have HTT:=V (zc cur.toList (e.table.map (Value.int .i64)) (fs.map (Value.int .i64)) k e.table.length ht (by rw [bz];exact Lg) (by rw [bz]));have hcur:k+fs.length <=cur.size:=by omega
 have HSZ:=V Lf;clear e2 Kh ht Lf hlen;go_enter func30,ntmps30;go_wp2_with (first | (refine wpList_copy_own rfl (.tmp 30) (.tmp 31) 25 25 rfl 3 (by kernel_rfl) (by kernel_rfl) g k (e.table.length - k) (cv - k) ⟨bf,off,none⟩ fs.length cf rfl rfl cur 3 hg (fs.map (Value.int .i64)) (by rw [bz];exact(cJ (by omega)).symm) hsrc (by rw [bz];exact hcur) (fun v hv=>by obtain⟨_,_,rfl⟩:=List.mem_map.1 hv;rfl) ?_));go_wp2_with fail;go_ret;have Km:=zb w g (cur.toList.take k++(fs.map (Value.int .i64)++cur.toList.drop (k+fs.length))).toArray;have LD:=setRow_heap w g cur (cur.toList.take k++(fs.map (Value.int .i64)++cur.toList.drop (k+fs.length))).toArray 3 _ hg;refine⟨by rw [HE.out];rfl,?_,?_⟩
 ·rw [HE.out]
  show nI _ B X ⟨e.table.take k++fs++e.table.drop (k+fs.length),e.globals⟩;refine⟨_,_,HX.out.keeps Km ?_,?_,Ld.out.keeps Km ?_⟩
  ·intro h
   exact dR.gw Mb.out HX.out (by decide) g (by simp [ey,Value.ownBlock]) h.symm
  ·have hl:(e.table.take k++fs++e.table.drop (k+fs.length)).length=e.table.length:=by
    simp only [ah,aR,bm];omega
   have h2:=HTT.out;rw [bz]at h2;show dR _ _ _ _ _ _ (e.table.take k++fs++e.table.drop (k+fs.length));refine⟨by rw [jL fp], .inr ⟨g,cv,_,by rw [hl],hBg,LD,by rw [hl];exact hn,hm,?_,?_⟩⟩
   ·simp only [dy,ah,aR,bm,bz,Array.length_toList]
    have:=HSZ.out;omega
   ·rw [hl,bj,H8]
    simp only [cg,dP,List.map_drop];exact h2
  ·intro i hi h
   subst h;have:=dR.ne Ld.out Mb.out (by decide) i hi;exact this (by simp [ey,Value.ownBlock])
 ·exact Km.mono (fun i hi=>by subst hi;exact⟨hBg,_,hg⟩)
structure jm where
 kind:Int
 po:Int
 fn:Int
 dX:List fb
deriving DecidableEq
def jm.more:jm:=⟨1,0,0,[]⟩
def jm.full:jm:=⟨5,0,0,[]⟩
def jm.pF (n:Int):jm:=⟨4,n,0,[]⟩
def oB (c:gN):List jU:=(fu c.body).getD []
def mA (m:ew) (f:Int):Bool:=decide (0 <=f)&&decide (f < m.imports.length)
section
def nc (w:World) (f:eW) (u:Value × Value):Prop:=dR 42 2 gg w 0 u.1 f.locals/\dR 46 2 kl w 0 u.2 f.labels
def gP (w:World):List eW ->List (Value × Value) ->Prop
 | [],[]=>True
 | f::l,u::us=>nc w f u/\gP w l us
 | [],_::_=>False
 | _::_,[]=>False
theorem gP.len {w:World}:∀{l:List eW} {us:List (Value × Value)},gP w l us ->us.length=l.length
 | [],[],_=>rfl
 | _::l,_::us,h=>by rw [aI,aI,gP.len (l:=l) (us:=us) h.2]
 | [],_::_,h=>h.elim
 | _::_,[],h=>h.elim
theorem gP.snoc {w:World} {f:eW} {u:Value × Value}:∀{l:List eW} {us:List (Value × Value)},gP w l us ->nc w f u ->gP w (l++[f]) (us++[u])
 | [],[],_,h=>⟨h,trivial⟩
 | _::l,_::us,h,k=>⟨h.1,gP.snoc (l:=l) (us:=us) h.2 k⟩
 | [],_::_,h,_=>h.elim
 | _::_,[],h,_=>h.elim
theorem gP.open {w:World} {f:eW}:∀{l:List eW} {us:List (Value × Value)},gP w (l++[f]) us ->∃ON u,us=ON++[u]/\gP w l ON/\nc w f u
 | [],[],h=>h.elim
 | [],[u],h=>⟨[],u,rfl,trivial,h.1⟩
 | [],_::_::_,h=>h.2.elim
 | _::_,[],h=>h.elim
 | x::l,v::us,h=>by
  obtain⟨ON,u,rfl,h1,h2⟩:=gP.open (l:=l) (us:=us) h.2;exact⟨v::ON,u,rfl,⟨h.1,h1⟩,h2⟩
theorem gP.to {w w':World}:∀{l:List eW} {us:List (Value × Value)},gP w l us ->(∀f u,u∈us ->nc w f u ->nc w' f u) ->gP w' l us
 | [],[],_,_=>trivial
 | f::l,u::us,h,k=>⟨k f u (by simp) h.1,gP.to (l:=l) (us:=us) h.2 (fun g v hv=>k g v (by simp [hv]))⟩
 | [],_::_,h,_=>h.elim
 | _::_,[],h,_=>h.elim
theorem gP.mem {w:World}:∀{l:List eW} {us:List (Value × Value)} {u:Value × Value},gP w l us ->u∈us ->∃f,nc w f u
 | [],[],_,_,hu=>by simp at hu
 | f::l,v::us,u,h,hu=>by
  rcases bJ.1 hu with rfl | hu
  ·exact⟨f,h.1⟩
  ·exact gP.mem (l:=l) (us:=us) h.2 hu
 | [],_::_,_,h,_=>h.elim
 | _::_,[],_,h,_=>h.elim
structure rJ where
 uv:Value
 uf:Value
 us:List (Value × Value)
def rJ.own (v:rJ) (b g:Nat):Prop:=g=b\/ey v.uv g\/ey v.uf g\/∃u∈v.us,ey u.1 g\/ey u.2 g
def ig (pre:List Value) (v:rJ) (asks:Int) (post:List Value):Array Value:=(pre++v.uv::v.uf:: .int .i64 asks::post).toArray
def xW (us:List (Value × Value)):Prop:=us.Pairwise fun a b=>(∀g,ey a.1 g ->¬ ey b.1 g)/\(∀g,ey a.2 g ->¬ ey b.2 g)
structure fS (w:World) (b:Nat) (pre post:List Value) (t:TypeId) (v:rJ) (s:gI):Prop where
 kk:eE w b (ig pre v s.asks post) t
 dX:dR 42 2 gg w 0 v.uv s.dX
 ef:dR 40 5 lS w 0 v.uf (s.ef.zip v.us)
 rows:gP w s.ef v.us
 IL:∀u∈v.us,∀g,ey v.uv g ->¬ ey u.1 g
 apart:xW v.us
 ty:t≠42/\t≠40/\t≠46/\t≠74
section
variable {w w':World} {b:Nat} {pre post:List Value} {t:TypeId} {v:rJ} {s:gI}
theorem dR.has {α:Type} {t:TypeId} {k:Nat} {enc:α ->List Value} {B:Nat} {v:Value} {l:List α} (h:dR t k enc w B v l) {g:Nat} (hg:ey v g):∃cur,eE w g cur t:=by
 obtain⟨_,⟨hv,_⟩ | ⟨g',cap,cur,hv,_,hb,_⟩⟩:=h
 ·rw [hv]at hg;simp [ey,Value.ownBlock]at hg
 ·rw [hv]at hg
  simp [ey,Value.ownBlock]at hg;subst hg;exact⟨cur,hb⟩
theorem eE.uniq {X:Nat} {xs ys:Array Value} {t t':TypeId} (h:eE w X xs t) (k:eE w X ys t'):t=t':=by
 have:=h.symm.trans k;injection this with this;injection this
theorem fS.kinds (h:fS w b pre post t v s) {g:Nat} (hg:v.own b g):(g=b)\/∃cur t',eE w g cur t'/\(t'=42\/t'=40\/t'=46):=by
 rcases hg with rfl | hg | hg | ⟨u,hu,hg⟩
 ·exact .inl rfl
 ·obtain⟨cur,hb⟩:=h.dX.has hg
  exact .inr ⟨cur,_,hb, .inl rfl⟩
 ·obtain⟨cur,hb⟩:=h.ef.has hg
  exact .inr ⟨cur,_,hb, .inr (.inl rfl)⟩
 ·obtain⟨f,hf⟩:=h.rows.mem hu
  rcases hg with hg | hg
  ·obtain⟨cur,hb⟩:=hf.1.has hg
   exact .inr ⟨cur,_,hb, .inl rfl⟩
  ·obtain⟨cur,hb⟩:=hf.2.has hg
   exact .inr ⟨cur,_,hb, .inr (.inr rfl)⟩
theorem fS.lt (h:fS w b pre post t v s) {g:Nat} (hg:v.own b g):g < w.heap.size:=by
 rcases h.kinds hg with rfl | ⟨cur,t',hb,_⟩
 ·exact h.kk.lt
 ·exact hb.lt
theorem fS.not (h:fS w b pre post t v s) {X:Nat} {xs:Array Value} {t':TypeId} (hX:eE w X xs t') (hb:X≠b) (ht:t'≠42/\t'≠40/\t'≠46):¬ v.own b X:=by
 intro hg;rcases h.kinds hg with rfl | ⟨cur,t2,Kl,h2⟩
 ·exact hb rfl
 ·have:=Kl.uniq hX
  subst this;rcases h2 with h2 | h2 | h2
  ·exact ht.1 h2
  ·exact ht.2.1 h2
  ·exact ht.2.2 h2
theorem nc.keeps {P:Nat ->Prop} {f:eW} {u:Value × Value} (h:nc w f u) (hk:dS P w w') (hP:∀g,ey u.1 g\/ey u.2 g ->¬ P g):nc w' f u:=
 ⟨h.1.keeps hk (fun g hg=>hP g (.inl hg)),h.2.keeps hk (fun g hg=>hP g (.inr hg))⟩
theorem fS.keeps {P:Nat ->Prop} (h:fS w b pre post t v s) (hk:dS P w w') (hP:∀g,v.own b g ->¬ P g):fS w' b pre post t v s:=
 ⟨h.kk.keeps hk (hP b (.inl rfl)),h.dX.keeps hk (fun g hg=>hP g (.inr (.inl hg))),h.ef.keeps hk (fun g hg=>hP g (.inr (.inr (.inl hg)))),
  h.rows.to (fun _ u hu hf=>hf.keeps hk (fun g hg=>hP g (.inr (.inr (.inr ⟨u,hu,hg⟩))))),h.IL,h.apart,h.ty⟩
theorem fS.below (h:fS w b pre post t v s) (hb:Below w.heap.size w w'):fS w' b pre post t v s:=h.keeps (P:=fun _=>False) (dS.dV hb) (fun _ _ h=>h)
theorem fS.drew (h:fS w b pre post t v s):fS w.drew b pre post t v s:=h.below (an _ _).drew
theorem fS.alloc (h:fS w b pre post t v s) (o:Obj):fS (w.alloc o) b pre post t v s:=h.below ((an _ _).alloc (ag _) o)
def kJ (v v':rJ) (b:Nat) (w w':World):Prop:=dS (v.own b) w w'/\∀g,v'.own b g ->v.own b g\/w.heap.size <=g
theorem kJ.refl (v:rJ) (b:Nat) (w:World):kJ v v b w w:=⟨dS.refl _ _,fun _ h=> .inl h⟩
theorem kJ.trans {v v' v2:rJ} {w2:World} (h:kJ v v' b w w') (k:kJ v' v2 b w' w2):kJ v v2 b w w2:=
 ⟨h.1.trans k.1 (fun g hg=>h.2 g hg),fun g hg=>(k.2 g hg).elim (h.2 g) (fun hg=> .inr (aW h.1.size hg))⟩
theorem kJ.below {v v':rJ} {w2:World} (h:kJ v v' b w w') (k:Below w'.heap.size w' w2):kJ v v' b w w2:=
 ⟨h.1.trans (dS.dV (S:=fun _=>False) k) (fun _ h=>h.elim),h.2⟩
theorem kJ.dV {v:rJ} (k:Below w.heap.size w w'):kJ v v b w w':=(kJ.refl v b w).below k
theorem kJ.drew {v v':rJ} (h:kJ v v' b w w'):kJ v v' b w w'.drew:=h.below (an _ _).drew
theorem re (pre:List Value) (v:rJ) (n:Int) (post:List Value):(ig pre v n post)[pre.length]?=some v.uv:=by simp [ig]
theorem yB (pre:List Value) (v:rJ) (n:Int) (post:List Value):(ig pre v n post)[pre.length+1]?=some v.uf:=by simp [ig]
theorem D7 (pre:List Value) (v:rJ) (n:Int) (post:List Value):(ig pre v n post)[pre.length+2]?=some (.int .i64 n):=by simp [ig]
theorem GZ (pre:List Value) (v:rJ) (n:Int) (post:List Value) (x:Value):(ig pre v n post).setIfInBounds pre.length x=ig pre {v with uv:=x} n post:=by simp [ig]
theorem Bt (pre:List Value) (v:rJ) (n:Int) (post:List Value) (x:Value):(ig pre v n post).setIfInBounds (pre.length+1) x=ig pre {v with uf:=x} n post:=by simp [ig]
theorem fS.c0 (h:fS w b pre post t v s):w.cell? ⟨b,pre.length,none⟩=some v.uv:=(h.kk.cell _).trans (re _ _ _ _)
theorem fS.c1 (h:fS w b pre post t v s):w.cell? ⟨b,pre.length+1,none⟩=some v.uf:=(h.kk.cell _).trans (yB _ _ _ _)
theorem fS.c2 (h:fS w b pre post t v s):w.cell? ⟨b,pre.length+2,none⟩=some (.int .i64 s.asks):=(h.kk.cell _).trans (D7 _ _ _ _)
theorem fS.Jo {α:Type} {t':TypeId} {k:Nat} {enc:α ->List Value} {B:Nat} {u:Value} {l:List α} (h:fS w b pre post t v s) (ho:dR t' k enc w B u l) (ht:t'=42\/t'=40\/t'=46):¬ ey u b:=by
 intro hg;obtain⟨cur,hb⟩:=ho.has hg;have:=hb.uniq h.kk;subst this;rcases ht with ht | ht | ht
 ·exact h.ty.1 ht
 ·exact h.ty.2.1 ht
 ·exact h.ty.2.2.1 ht
theorem fS.FL {w1:World} (h:fS w b pre post t v s) (hk:dS (ey v.uv) w w1):
  eE w1 b (ig pre v s.asks post) t/\dR 40 5 lS w1 0 v.uf (s.ef.zip v.us)/\gP w1 s.ef v.us:=by
 refine⟨h.kk.keeps hk (h.Jo h.dX (.inl rfl)),h.ef.keeps hk (fun g hg=>dR.ne h.ef h.dX (by decide) g hg),h.rows.to (fun f u hu hf=>?_)⟩;exact hf.keeps hk (fun g hg h2=>by
  rcases hg with hg | hg
  ·exact h.IL u hu g h2 hg
  ·exact dR.ne hf.2 h.dX (by decide) g hg h2)
theorem fS.xD {w1:World} {uv':Value} {QK:List fb} (h:fS w b pre post t v s) (ho:dR 42 2 gg w1 0 uv' QK) (hk:dS (ey v.uv) w w1) (hs:eC w v.uv uv'):
  fS (w1.setCell ⟨b,pre.length,none⟩ uv') b pre post t {v with uv:=uv'} {s with dX:=QK}/\kJ v {v with uv:=uv'} b w (w1.setCell ⟨b,pre.length,none⟩ uv'):=by
 obtain⟨h1,h2,h3⟩:=fS.FL h hk;have Km:=ep w1 b pre.length uv';have hb:∀{α:Type} {t':TypeId} {k:Nat} {enc:α ->List Value} {B:Nat} {u:Value} {l:List α},dR t' k enc w1 B u l ->(t'=42\/t'=40\/t'=46) ->∀g,ey u g ->¬ g=b:=by
  intro α t' k enc B u l ho ht g hg he;subst he;obtain⟨cur,hb⟩:=ho.has hg;have:=hb.uniq h1;subst this;rcases ht with ht | ht | ht
  ·exact h.ty.1 ht
  ·exact h.ty.2.1 ht
  ·exact h.ty.2.2.1 ht
 refine⟨⟨?_,ho.keeps Km (hb ho (.inl rfl)),h2.keeps Km (hb h2 (.inr (.inl rfl))),h3.to (fun f u hu hf=>hf.keeps Km (fun g hg=>?_)),?_,h.apart,h.ty⟩,?_,?_⟩
 ·have:=h1.set pre.length uv'
  rw [GZ]at this;exact this
 ·rcases hg with hg | hg
  ·exact hb hf.1 (.inl rfl) g hg
  ·exact hb hf.2 (.inr (.inr rfl)) g hg
 ·intro u hu g hg h4
  rcases hs g hg with h5 | h5
  ·exact h.IL u hu g h5 h4
  ·obtain⟨f,hf⟩:=h.rows.mem hu
   have:=(eo hf.1 h4).2;omega
 ·exact(hk.mono (fun g hg=> .inr (.inl hg))).trans Km (fun g hg=> .inl (.inl hg))
 ·intro g hg
  rcases hg with hg | hg | hg | hg
  ·exact .inl (.inl hg)
  ·exact(hs g hg).imp (fun h=> .inr (.inl h)) id
  ·exact .inl (.inr (.inr (.inl hg)))
  ·exact .inl (.inr (.inr (.inr hg)))
theorem fS.top {lo:List eW} {f:eW} (h:fS w b pre post t v s) (hs:s.ef=lo++[f]):
  ∃us u g cap,v.us=us++[u]/\us.length=lo.length/\v.uf= .slice (some ⟨g,0,none⟩) (lo.length+1) cap/\lo.length+1 <=cap/\cap <=9223372036854775807/\g < w.heap.size/\
   (w.cell? ⟨g,lo.length*5,none⟩=some (.int .i64 f.fn)/\w.cell? ⟨g,lo.length*5+1,none⟩=some (.int .i64 f.pc)/\w.cell? ⟨g,lo.length*5+2,none⟩=some u.1/\w.cell? ⟨g,lo.length*5+3,none⟩=some (.int .i64 f.base)/\w.cell? ⟨g,lo.length*5+4,none⟩=some u.2)/\
   gP w lo us/\nc w f u/\∀i,w.frozen? ⟨g,i,none⟩=false:=by
 have hr:=h.rows;rw [hs]at hr;obtain⟨us,u,hu,h1,h2⟩:=hr.open;have hlen:=h1.len;have hf:=h.ef;rw [hs,hu,dh hlen.symm]at hf;obtain⟨g,cap,cur,he,-,hg,hb,K7,hm⟩:=hf.open (by simp);have hl:(lo.zip us++[f].zip [u]).length=lo.length+1:=by simp [hlen]
 rw [hl]at he K7;rw [he]at hf;have hx:(lo.zip us++[f].zip [u])[lo.length]?=some (f,u):=by
  rw [bp (by simp [hlen])];simp [hlen]
 exact⟨us,u,g,cap,hu,hlen,he,K7,by simpa [maxLen] using hm,hg,⟨by have:=dR.cell ix hf (j:=0) hx rfl;rwa [aK]at this,dR.cell ix hf (j:=1) hx rfl,dR.cell ix hf (j:=2) hx rfl,dR.cell ix hf (j:=3) hx rfl,dR.cell ix hf (j:=4) hx rfl⟩,h1,h2,dR.free hf⟩
theorem GS {uv:Value} {dX:List fb} {asks:Int} {lo:List eW} {f f':eW} {us:List (Value × Value)} {u u':Value × Value} {g cap:Nat} {x:Value} {j:Nat}
  (hb:eE w b (ig pre ⟨uv, .slice (some ⟨g,0,none⟩) (lo.length+1) cap,us++[u']⟩ asks post) t) (hv:dR 42 2 gg w 0 uv dX)
  (Kk:dR 40 5 lS w 0 (.slice (some ⟨g,0,none⟩) (lo.length+1) cap) ((lo++[f]).zip (us++[u]))) (QJ:gP w lo us) (hr:nc w f' u')
  (hj:j < 5) (he:lS (f',u')=(lS (f,u)).set j x) (hfar:∀u2∈us++[u'],∀g,ey uv g ->¬ ey u2.1 g) (hap:xW (us++[u'])) (ht:t≠42/\t≠40/\t≠46/\t≠74):
  fS (w.setCell ⟨g,lo.length*5+j,none⟩ x) b pre post t ⟨uv, .slice (some ⟨g,0,none⟩) (lo.length+1) cap,us++[u']⟩ ⟨dX,lo++[f'],asks⟩:=by
 have hlen:=QJ.len;have hfr2:=Kk;rw [dh hlen.symm]at Kk;have hx:(lo.zip us++[f].zip [u])[lo.length]?=some (f,u):=by
  rw [bp (by simp [hlen])];simp [hlen]
 have Og:=dR.set ix Kk hx hj he;have e4:(lo.zip us++[f].zip [u]).set lo.length (f',u')=lo.zip us++[f'].zip [u']:=by
  rw [List.set_append_right _ _ (by simp [hlen])];simp [hlen]
 rw [e4, <- dh hlen.symm]at Og;have Km:=ep w g (lo.length*5+j) x;have hg:ey (.slice (some ⟨g,0,none⟩) (lo.length+1) cap) g:=by simp [ey,Value.ownBlock]
 refine⟨hb.keeps Km (fun e=>?_),hv.keeps Km (fun i hi e=>dR.ne hv Kk (by decide) i hi (by rw [e];exact hg)),Og,
  (gP.snoc QJ hr).to (fun f2 u2 _ h3=>h3.keeps Km (fun i hi e=>?_)),hfar,hap,ht⟩
 ·obtain⟨cur,hc⟩:=hfr2.has hg
  rw [<- e]at hc;exact ht.2.1 (hb.uniq hc)
 ·rcases hi with hi | hi
  ·exact dR.ne h3.1 Kk (by decide) i hi (by rw [e];exact hg)
  ·exact dR.ne h3.2 Kk (by decide) i hi (by rw [e];exact hg)
theorem fS.Ic {uv:Value} {dX:List fb} {asks:Int} {lo:List eW} {f:eW} (f':eW) {us:List (Value × Value)} {u:Value × Value} {g cap:Nat} {x:Value} (j:Nat) (h:fS w b pre post t ⟨uv, .slice (some ⟨g,0,none⟩) (lo.length+1) cap,us++[u]⟩ ⟨dX,lo++[f],asks⟩)
  (hj:j < 5) (he:lS (f',u)=(lS (f,u)).set j x) (h1:f'.locals=f.locals) (h2:f'.labels=f.labels):
  fS (w.setCell ⟨g,lo.length*5+j,none⟩ x) b pre post t ⟨uv, .slice (some ⟨g,0,none⟩) (lo.length+1) cap,us++[u]⟩ ⟨dX,lo++[f'],asks⟩/\
   kJ ⟨uv, .slice (some ⟨g,0,none⟩) (lo.length+1) cap,us++[u]⟩ ⟨uv, .slice (some ⟨g,0,none⟩) (lo.length+1) cap,us++[u]⟩ b w (w.setCell ⟨g,lo.length*5+j,none⟩ x):=by
 obtain⟨us2,u2,e2,h3,h4⟩:=h.rows.open;obtain⟨rfl,e3⟩:=List.append_inj' e2 rfl;injection e3 with e3;subst e3;exact⟨GS h.kk h.dX h.ef h3 (by unfold nc;rw [h1,h2];exact h4) hj he h.IL h.apart h.ty,
  (ep w g _ x).mono (fun i hi=>by subst hi;exact .inr (.inr (.inl (by simp [ey,Value.ownBlock])))),fun i hi=> .inl hi⟩
theorem fS.Bz {w1:World} (h:fS w b pre post t v s) (hk:dS (ey v.uf) w w1):
  eE w1 b (ig pre v s.asks post) t/\dR 42 2 gg w1 0 v.uv s.dX/\gP w1 s.ef v.us:=by
 refine⟨h.kk.keeps hk (h.Jo h.ef (.inr (.inl rfl))),h.dX.keeps hk (fun g hg=>dR.ne h.dX h.ef (by decide) g hg),h.rows.to (fun f u hu hf=>?_)⟩;exact hf.keeps hk (fun g hg h2=>by
  rcases hg with hg | hg
  ·exact dR.ne hf.1 h.ef (by decide) g hg h2
  ·exact dR.ne hf.2 h.ef (by decide) g hg h2)
theorem BS {w1:World} {v':rJ} {s':gI} (k:Nat) (x:Value) (hb:eE w1 b (ig pre v s.asks post) t) (he:(ig pre v s.asks post).setIfInBounds k x=ig pre v' s'.asks post)
  (hv:dR 42 2 gg w1 0 v'.uv s'.dX) (hf:dR 40 5 lS w1 0 v'.uf (s'.ef.zip v'.us)) (hr:gP w1 s'.ef v'.us)
  (hfar:∀u∈v'.us,∀g,ey v'.uv g ->¬ ey u.1 g) (hap:xW v'.us) (ht:t≠42/\t≠40/\t≠46/\t≠74):
  fS (w1.setCell ⟨b,k,none⟩ x) b pre post t v' s':=by
 have Km:=ep w1 b k x;have hn:∀{α:Type} {t':TypeId} {k:Nat} {enc:α ->List Value} {B:Nat} {u:Value} {l:List α},dR t' k enc w1 B u l ->(t'=42\/t'=40\/t'=46) ->∀g,ey u g ->¬ g=b:=by
  intro α t' k enc B u l ho hte g hg e;subst e;obtain⟨cur,hc⟩:=ho.has hg;have:=hc.uniq hb;subst this;rcases hte with hte | hte | hte
  ·exact ht.1 hte
  ·exact ht.2.1 hte
  ·exact ht.2.2.1 hte
 refine⟨?_,hv.keeps Km (hn hv (.inl rfl)),hf.keeps Km (hn hf (.inr (.inl rfl))),hr.to (fun f u _ h3=>h3.keeps Km (fun g hg=>?_)),hfar,hap,ht⟩
 ·have:=hb.set k x
  rw [he]at this;exact this
 ·rcases hg with hg | hg
  ·exact hn h3.1 (.inl rfl) g hg
  ·exact hn h3.2 (.inr (.inr rfl)) g hg
theorem fS.EY {uv:Value} {dX:List fb} {asks:Int} {lo:List eW} {f:eW} {us:List (Value × Value)} {u:Value × Value} {g cap:Nat} (h:fS w b pre post t ⟨uv, .slice (some ⟨g,0,none⟩) (lo.length+1) cap,us++[u]⟩ ⟨dX,lo++[f],asks⟩):
  fS (w.setCell ⟨b,pre.length+1,none⟩ (.slice (some ⟨g,0,none⟩) lo.length cap)) b pre post t ⟨uv, .slice (some ⟨g,0,none⟩) lo.length cap,us⟩ ⟨dX,lo,asks⟩/\
   kJ ⟨uv, .slice (some ⟨g,0,none⟩) (lo.length+1) cap,us++[u]⟩ ⟨uv, .slice (some ⟨g,0,none⟩) lo.length cap,us⟩ b w (w.setCell ⟨b,pre.length+1,none⟩ (.slice (some ⟨g,0,none⟩) lo.length cap)):=by
 obtain⟨us2,u2,e2,h3,h4⟩:=h.rows.open;obtain⟨rfl,e3⟩:=List.append_inj' e2 rfl;injection e3 with e3;subst e3;have hlen:=h3.len;have Kk:=h.ef;simp only at Kk;rw [dh hlen.symm]at Kk;have hT:=dR.take ix Kk lo.length (by simp [hlen]);rw [dx (by simp [hlen])]at hT;have hap:=h.apart;rw [xW,cX]at hap;refine⟨BS _ _ h.kk (by rw [Bt];rfl) h.dX hT h3 (fun u2 MD=>h.IL u2 (by simp [MD])) hap.1 h.ty,(ep w b _ _).mono (fun i hi=> .inl hi),fun i hi=> .inl ?_⟩;rcases hi with hi | hi | hi | ⟨u2,MD,hi⟩
 ·exact .inl hi
 ·exact .inr (.inl hi)
 ·exact .inr (.inr (.inl ((dR.same i).1 hi)))
 ·exact .inr (.inr (.inr ⟨u2,by simp [MD],hi⟩))
theorem fS.Cp {w1:World} {f:eW} {u:Value × Value} {uf':Value} (h:fS w b pre post t v s) (hr:nc w f u) (hn:∀g,ey u.1 g\/ey u.2 g ->¬ v.own b g) (hnk:∀g,ey u.1 g\/ey u.2 g ->¬ ey v.uf g) (ho:dR 40 5 lS w1 0 uf' (s.ef.zip v.us++[(f,u)])) (hk:dS (ey v.uf) w w1) (hs:eC w v.uf uf'):
  fS (w1.setCell ⟨b,pre.length+1,none⟩ uf') b pre post t ⟨v.uv,uf',v.us++[u]⟩ ⟨s.dX,s.ef++[f],s.asks⟩/\
   dS (v.own b) w (w1.setCell ⟨b,pre.length+1,none⟩ uf')/\∀g,(⟨v.uv,uf',v.us++[u]⟩:rJ).own b g ->v.own b g\/(ey u.1 g\/ey u.2 g)\/w.heap.size <=g:=by
 obtain⟨h1,h2,h3⟩:=h.Bz hk;have hlen:=h.rows.len;have e1:s.ef.zip v.us++[(f,u)]=(s.ef++[f]).zip (v.us++[u]):=by rw [dh hlen.symm];rfl
 rw [e1]at ho;refine⟨BS (s:=s) _ _ h1 (by rw [Bt];rfl) h2 ho (gP.snoc h3 (hr.keeps hk hnk)) ?_ ?_ h.ty,?_,?_⟩
 ·intro u2 MD g hg
  rcases bA.1 MD with h6 | h6
  ·exact h.IL u2 h6 g hg
  ·rw [aV.1 h6]
   exact fun h7=>hn g (.inl h7) (.inr (.inl hg))
 ·rw [xW,cX]
  refine⟨h.apart,by simp,fun a ha c hc=>?_⟩;rw [aV.1 hc];exact⟨fun g hg h7=>hn g (.inl h7) (.inr (.inr (.inr ⟨a,ha, .inl hg⟩))),fun g hg h7=>hn g (.inr h7) (.inr (.inr (.inr ⟨a,ha, .inr hg⟩)))⟩
 ·refine(hk.mono (fun i hi=> .inr (.inr (.inl hi)))).trans (ep w1 b _ uf') (fun i hi=> .inl (.inl hi))
 ·intro g hg
  rcases hg with hg | hg | hg | ⟨u2,MD,hg⟩
  ·exact .inl (.inl hg)
  ·exact .inl (.inr (.inl hg))
  ·exact(hs g hg).elim (fun h=> .inl (.inr (.inr (.inl h)))) (fun h=> .inr (.inr h))
  ·rcases bA.1 MD with h6 | h6
   ·exact .inl (.inr (.inr (.inr ⟨u2,h6,hg⟩)))
   ·rw [aV.1 h6]at hg
    exact .inr (.inl hg)
theorem fS.cells {uv:Value} {dX:List fb} {asks:Int} {lo:List eW} {f:eW} {us:List (Value × Value)} {u:Value × Value} {g cap:Nat} (h:fS w b pre post t ⟨uv, .slice (some ⟨g,0,none⟩) (lo.length+1) cap,us++[u]⟩ ⟨dX,lo++[f],asks⟩):
  (w.cell? ⟨g,lo.length*5,none⟩=some (.int .i64 f.fn)/\w.cell? ⟨g,lo.length*5+1,none⟩=some (.int .i64 f.pc)/\w.cell? ⟨g,lo.length*5+2,none⟩=some u.1/\w.cell? ⟨g,lo.length*5+3,none⟩=some (.int .i64 f.base)/\w.cell? ⟨g,lo.length*5+4,none⟩=some u.2)/\
   nc w f u/\gP w lo us/\(∀i,w.frozen? ⟨g,i,none⟩=false)/\g < w.heap.size/\lo.length+1 <=cap/\cap <=9223372036854775807:=by
 obtain⟨us2,u2,g2,Kn,e1,_,e2,h3,h4,h5,h6,h7,h8,h9⟩:=h.top rfl;obtain⟨rfl,e3⟩:=List.append_inj' e1 rfl;injection e3 with e3;injection e2 with e4 _ e5;injection e4 with e4;injection e4 with e4;subst e3 e4 e5;exact⟨h6,h8,h7,h9,h5,h3,h4⟩
end
end
section
open Go.RowKit Go.Maps
def IJ (n:Int):DataW Unit:= .lit (.int .i64 n)
def G3 (b:jU):DataW Unit:= .agg [IJ b.pos,IJ b.JC,IJ b.fin]
def B7:Value ->Option (DataW Unit × List MemPlace)
 | .agg cs=>match cs.toList with
  | [.int .i64 a, .int .i64 b, .int .i64 c]=>some (G3 ⟨a,b,c⟩,[])
  | _=>none
 | _=>none
def yW (D:DataW Unit) (b:jU):DataW Unit:=D.put (.int .i64 b.pos) (G3 b)
def zB (l:List jU):DataW Unit:=l.foldl yW (.map [])
theorem Ag (l:List jU) (b:jU):zB (l++[b])=(zB l).put (.int .i64 b.pos) (G3 b):=by simp [zB,yW,List.foldl_append]
def fV (w:World) (j:Nat) (l:List jU):Prop:=∃n,n <=l.length/\w.ownsMap prog 3 B7 j n (zB l)
theorem fV.lt {w:World} {j:Nat} {l:List jU} (h:fV w j l):j < w.heap.size:=by
 obtain⟨n,-,h⟩:=h;exact h.lt
theorem fV.keeps {w w':World} {j:Nat} {l:List jU} {P:Nat ->Prop} (h:fV w j l) (hk:dS P w w') (hj:¬ P j):fV w' j l:=by
 have Kq:=h.lt;obtain⟨n,hn,es,clock,hb,r⟩:=h;exact⟨n,hn,es,clock,(hk.block j Kq hj).trans hb,r⟩
theorem fV.below {w w':World} {j:Nat} {l:List jU} (h:fV w j l) (hb:Below w.heap.size w w'):fV w' j l:=h.keeps (P:=fun _=>False) (dS.dV hb) (fun h=>h)
theorem Ie:prog.underlying 72=some (.map 3 107):=by kernel_rfl
theorem Hy:prog.underlying 3=some (.int .i64):=by kernel_rfl
end
theorem Bn (K:Nat) (hK:K <=5000) (n:Int) (hn:n=(K:Int)) (w:World):(Instr.makeSlice 97 (.int .i64 n) (.int .i64 n)).run prog w=
  .ok (.slice (some ⟨w.heap.size,0,none⟩) K K) (w.alloc (.cells (List.replicate K (.int .u8 0)).toArray 5)):=by
 subst hn;obtain⟨i,hi,MY,LG,Mm⟩:=cd oC;have h:=run_make (P:=prog) w 97 5 i _ (by kernel_rfl) hi MY .i64 .i64 (K:Int) (K:Int) (by omega) (Int.le_refl _) (by rw [Mm];omega) (by omega);rw [LG,cI,bj]at h;have e:madeCells (Value.cells (.int .u8 0)) K=(List.replicate K (.int .u8 0)).toArray:=by
  apply Array.ext
  ·simp [madeCells]
  ·intro i h1 h2
   have:i %1=0:=Nat.mod_one i;simp [madeCells,Value.cells,this]
 rw [e]at h;exact h
structure zX where
 bytes:List UInt8
 fg:Int
 BP:List Int
def E8 (w:World) (B X:Nat) (e:zX):Prop:=∃v v',eE w X #[v, .int .i64 e.fg,v'] 145/\dU w B v e.bytes/\dR 3 1 eZ w B v' e.BP
def oD (mx:Int):Int:=if mx= -1 then 16 else max (min 16 mx) (-1)
def jg (l:fL):Option zX:=if l.has=false\/l.min < 0\/16 < l.min then none else some ⟨List.replicate (l.min.toNat*256) 0,oD l.max,[]⟩
def Cc (l:fL) (w:World) (e:Ending) (w':World):Prop:=
 Below w.heap.size w w'/\((jg l=none/\e= .returned (.pointer none))\/∃x X,jg l=some x/\e= .returned (.pointer (some ⟨X,0,none⟩))/\E8 w' w.heap.size X x/\w.heap.size <=X)
theorem yh {w:World} {g K B:Nat} (h:eE w g (List.replicate K (.int .u8 0)).toArray 5) (hB:B <=g) (hK:K <=100000):dU w B (.slice (some ⟨g,0,none⟩) K K) (List.replicate K 0):=by
 refine⟨by simp, .inr ⟨g,K,_,by simp,hB,h,by simp,by simp [maxLen];omega,by simp,?_⟩⟩;simp [List.map_replicate,bv]
theorem qy (w:World) (n:Nat) (hn:n <=16) (o:Obj) (m:Int):
  E8 (((w.alloc o).alloc (.cells (Array.replicate (n*256) (.int .u8 0)) 5)).alloc (.cells #[.slice (some ⟨w.heap.size+1,0,none⟩) (n*256) (n*256), .int .i64 m, .slice none 0 0] 145)).drew w.heap.size (w.heap.size+2) ⟨List.replicate (n*256) 0,m,[]⟩/\
  Below w.heap.size w (((w.alloc o).alloc (.cells (Array.replicate (n*256) (.int .u8 0)) 5)).alloc (.cells #[.slice (some ⟨w.heap.size+1,0,none⟩) (n*256) (n*256), .int .i64 m, .slice none 0 0] 145)).drew:=by
 rw [<- List.toArray_replicate];have Kw:=(an w.heap.size w).alloc (ag _) o;have Kl:=Kw.alloc (by rw [aE];omega) (.cells (List.replicate (n*256) (.int .u8 0)).toArray 5);have K4:=Kl.alloc (by rw [aE,aE];omega) (.cells #[.slice (some ⟨w.heap.size+1,0,none⟩) (n*256) (n*256), .int .i64 m, .slice none 0 0] 145);have hx:=eE.new ((w.alloc o).alloc (.cells (List.replicate (n*256) (.int .u8 0)).toArray 5)) #[.slice (some ⟨w.heap.size+1,0,none⟩) (n*256) (n*256), .int .i64 m, .slice none 0 0] 145;have hy:=(eE.new (w.alloc o) (List.replicate (n*256) (.int .u8 0)).toArray 5).alloc (.cells #[.slice (some ⟨w.heap.size+1,0,none⟩) (n*256) (n*256), .int .i64 m, .slice none 0 0] 145);simp only [aE]at hx hy;exact⟨⟨_,_,hx.drew,yh hy.drew (by omega) (by omega),dR.nil _ _⟩,K4.drew⟩
theorem Aq (l:fL) (w:World):Calls prog 28 #[.agg #[.bool l.has, .int .i64 l.min, .int .i64 l.max]] w (Cc l w):=by
 obtain⟨has,mn,mx⟩:=l;have HB:=V ((an w.heap.size w).alloc (ag _) (.cells #[.bool has, .int .i64 mn, .int .i64 mx] 55));cases has
 ·have HM:=V (show jg ⟨false,mn,mx⟩=none by unfold jg;simp)
  go_enter func28,ntmps28;go_wp2_with fail;go_ret;exact⟨HB.out, .inl ⟨HM.out,rfl⟩⟩
 by_cases q1:mn < 0
 ·have f1:decide (mn < 0)=true:=az q1
  have HM:=V (show jg ⟨true,mn,mx⟩=none by unfold jg;rw [if_pos (.inr (.inl q1))]);clear q1;go_enter func28,ntmps28;go_wp2_with fail;go_ret;exact⟨HB.out, .inl ⟨HM.out,rfl⟩⟩
 obtain⟨n,rfl⟩:∃n:Nat,mn=n:=⟨mn.toNat,by omega⟩;have f1:decide ((n:Int) < 0)=false:=aA q1;by_cases q2:16 < n
 ·have f2:decide ((16:Int) < (n:Int))=true:=az (by omega)
  have f3:decide (16 < n)=true:=az q2;have HM:=V (show jg ⟨true,n,mx⟩=none by unfold jg;rw [if_pos (.inr (.inr (by show(16:Int) < n;omega)))]);clear q1 q2;go_enter func28,ntmps28;go_wp2_with fail;go_ret;exact⟨HB.out, .inl ⟨HM.out,rfl⟩⟩
 have f2:decide ((16:Int) < (n:Int))=false:=aA (by omega);have f3:decide (16 < n)=false:=aA q2;have HM:=V (show jg ⟨true,n,mx⟩=some ⟨List.replicate (n*256) 0,oD mx,[]⟩by
  unfold jg;rw [aC (by simp;omega),cI])
 have hmk:=fun w=>Bn (n*256) (by omega) ((n:Int)*256) (by omega) w;have hn:n <=16:=by omega
 clear q1 q2;have Kw:=HB.out.alloc (by rw [aE];omega) (.cells (List.replicate (n*256) (.int .u8 0)).toArray 5);have HS:=V (Kw.alloc (by rw [aE,aE];omega) (.cells #[.slice (some ⟨w.heap.size+1,0,none⟩) (n*256) (n*256), .int .i64 16, .slice none 0 0] 145));have hx:=eE.new ((w.alloc (.cells #[.bool true, .int .i64 n, .int .i64 mx] 55)).alloc (.cells (List.replicate (n*256) (.int .u8 0)).toArray 5)) #[.slice (some ⟨w.heap.size+1,0,none⟩) (n*256) (n*256), .int .i64 16, .slice none 0 0] 145;have hy:=(eE.new (w.alloc (.cells #[.bool true, .int .i64 n, .int .i64 mx] 55)) (List.replicate (n*256) (.int .u8 0)).toArray 5).alloc (.cells #[.slice (some ⟨w.heap.size+1,0,none⟩) (n*256) (n*256), .int .i64 16, .slice none 0 0] 145);simp only [aE]at hx hy;have HX:=V hx;have HY:=V (yh hy (B:=w.heap.size) (by omega) (by omega));have HL0:=V (((eE.new w #[.bool true, .int .i64 n, .int .i64 mx] 55).alloc (.cells (List.replicate (n*256) (.int .u8 0)).toArray 5)).alloc (.cells #[.slice (some ⟨w.heap.size+1,0,none⟩) (n*256) (n*256), .int .i64 16, .slice none 0 0] 145));clear Kw hx hy;by_cases q:mx= -1
 ·have f4:=jI q
  have HMO:=V (show oD mx=16 by unfold oD;rw [if_pos q]);clear q;go_enter func28,ntmps28;go_wp2_with fail;go_ret;exact⟨HS.out, .inr ⟨_,w.heap.size+2,HM.out,rfl,by rw [HMO.out];exact⟨_,_,HX.out,HY.out,dR.nil _ _⟩,by omega⟩⟩
 have f4:=fc q;obtain⟨r1,OT⟩:∃r1:Int,min 16 mx=r1:=⟨_,rfl⟩;have HMO:=V (show oD mx=max (min 16 mx) (-1)by unfold oD;rw [if_neg q]);have x1:World.cell? _ ⟨w.heap.size+2,1,none⟩=some (.int .i64 16):=HX.out.drew.cell 1;have HL:=V (HL0.out.drew);have x2:World.cell? _ ⟨w.heap.size,2,none⟩=some (.int .i64 mx):=HL.out.cell 2;replace HX:=V HX.out.drew;have HY:=V (show dU _ w.heap.size (.slice (some ⟨w.heap.size+1,0,none⟩) (n*256) (n*256)) (List.replicate (n*256) 0)from dU.below HY.out (an _ _).drew);replace HS:=V HS.out.drew;clear q OT;go_enter func28,ntmps28;go_wp2_with fail;refine eP (fun w'=>w'.cell? ⟨w.heap.size+2,1,none⟩=some (.int .i64 16)/\w'.cell? ⟨w.heap.size,2,none⟩=some (.int .i64 mx)) 11 (up 0 7 ((7,false)::(8,false)::(9,true)::(10,true)::[])) (by kernel_rfl) (by kernel_rfl) ⟨x1,x2⟩ ?_;iterate 7 (first | (apply sk rfl rfl;simp only [pt]) | (apply dT rfl rfl rfl;·(rintro w' ⟨t0,t1⟩;go_wp2;exact⟨rfl,rfl,rfl⟩)))
 refine dZ rfl rfl ?_;by_cases hq:16 <=mx
 ·have hq':decide ((16:Int) <=mx)=true:=az hq
  replace HMO:=V (show oD mx=16 by rw [HMO.out];omega);go_wp2_with fail;refine⟨⟨x1,x2⟩,?_⟩;refine dZ rfl rfl ?_;go_wp2_with fail;refine⟨⟨x1,x2⟩,?_⟩;iterate 2 (first | (apply sk rfl rfl;simp only [pt]) | (apply dT rfl rfl rfl;·(rintro w' ⟨t0,t1⟩;go_wp2;exact⟨rfl,rfl,rfl⟩)))
  refine fI rfl rfl ?_;have z1:=HX.out.free 1;go_wp2_with fail;refine⟨trivial,?_⟩;refine aD ?_;go_wp2_with fail;go_ret;have HE:=qy w n hn (.cells #[.bool true, .int .i64 n, .int .i64 mx] 55) 16;exact⟨HE.2, .inr ⟨_,w.heap.size+2,HM.out,rfl,by rw [HMO.out];exact HE.1,by omega⟩⟩
 ·have hq':decide ((16:Int) <=mx)=false:=aA hq
  by_cases hr:mx < -1
  ·have hr':decide (mx < -1)=true:=az hr
   replace HMO:=V (show oD mx=(-1)by rw [HMO.out];omega);go_wp2_with fail;refine⟨⟨x1,x2⟩,?_⟩;refine dZ rfl rfl ?_;go_wp2_with fail;refine⟨⟨x1,x2⟩,?_⟩;iterate 2 (first | (apply sk rfl rfl;simp only [pt]) | (apply dT rfl rfl rfl;·(rintro w' ⟨t0,t1⟩;go_wp2;exact⟨rfl,rfl,rfl⟩)))
   refine fI rfl rfl ?_;have z1:=HX.out.free 1;go_wp2_with fail;refine⟨trivial,?_⟩;refine aD ?_;go_wp2_with fail;go_ret;have HE:=qy w n hn (.cells #[.bool true, .int .i64 n, .int .i64 mx] 55) (-1);exact⟨HE.2, .inr ⟨_,w.heap.size+2,HM.out,rfl,by rw [HMO.out];exact HE.1,by omega⟩⟩
  ·have hr':decide (mx < -1)=false:=aA hr
   replace HMO:=V (show oD mx=mx by rw [HMO.out];omega);go_wp2_with fail;refine⟨⟨x1,x2⟩,?_⟩;refine dZ rfl rfl ?_;go_wp2_with fail;refine⟨⟨x1,x2⟩,?_⟩;iterate 2 (first | (apply sk rfl rfl;simp only [pt]) | (apply dT rfl rfl rfl;·(rintro w' ⟨t0,t1⟩;go_wp2;exact⟨rfl,rfl,rfl⟩)))
   refine fI rfl rfl ?_;have z1:=HX.out.free 1;go_wp2_with fail;refine⟨trivial,?_⟩;refine aD ?_;go_wp2_with fail;go_ret;have HE:=qy w n hn (.cells #[.bool true, .int .i64 n, .int .i64 mx] 55) mx;exact⟨HE.2, .inr ⟨_,w.heap.size+2,HM.out,rfl,by rw [HMO.out];exact HE.1,by omega⟩⟩
theorem dU.gw {w:World} {B X:Nat} {v:Value} {l:List UInt8} {xs:Array Value} {t':TypeId} (h:dU w B v l) (hb:eE w X xs t') (Mf:5≠t'):∀i,ey v i ->¬ i=X:=by
 intro i hi he;subst he;obtain⟨_,⟨hv,_⟩ | ⟨g,cap,cur,hv,_,hg,_⟩⟩:=h
 ·rw [hv]at hi;simp [ey,Value.ownBlock]at hi
 ·rw [hv]at hi
  simp [ey,Value.ownBlock]at hi;subst hi;have:=hb.symm.trans hg;injection this with this;injection this with e1 e2;exact Mf e2.symm
def Jt (w:World) (B:Nat) (p:Value) (e:Option zX):Prop:=(e=none/\p= .pointer none)\/∃x X,e=some x/\p= .pointer (some ⟨X,0,none⟩)/\E8 w B X x/\B <=X
theorem y8 {α β:Type} {k:Nat} {enc:α × β ->List Value} {inner:World ->α ->β ->Prop} {w:World} {v:Value} {l:List α} (h:ea k enc inner w v l) {x:α} (hx:x∈l):∃u,inner w x u:=by
 obtain⟨i,hi⟩:=List.getElem?_of_mem hx;obtain⟨a,cap,rfl,-,-⟩:=ea.slice h;obtain⟨b,off,u,-,-,-,hu⟩:=ea.get h hi;exact⟨u,hu⟩
theorem ej.Io {w:World} {u:eB} {m:ew} (h:ej w u m):∀x∈m.eh,∀y∈x.body,y.ok:=fun x hx y hy=>by
 obtain⟨u1,h1⟩:=y8 h.2.2.2.2.2.2.1 hx;obtain⟨u2,h2⟩:=y8 h1.1.2 hy;exact h2.2
theorem zU {w:World} {u:eB} {m:ew} (h:ej w u m) (hm:m.may):qb (fy m)=some m:=by
 unfold qb;rw [ye hm.1.Ga h.2.2.2.2.2.2.2.2 h.Io hm.2];simp [hm]
def EW (m:ew) (w:World) (e:Ending) (w':World):Prop:=∃u,e= .returned (.agg (u.cells m))/\ej (mask (kD w.heap.size) w') u m/\Below w.heap.size w w'
theorem Av (m:ew) (u:eB) (w:World) (hm:ej w u m) (hs:m.words) (hy:m.may):Calls prog 27 #[.agg (u.cells m)] w (EW m w):=by
 have HI:=V hm;have HWD:=V hs;have HY:=V hy;have HDEC:=V (zU hm hy);obtain⟨a0,c0,a1,c1,a2,c2,a3,c3,a4,c4,a5,c5,a6,c6,a7,c7,rfl⟩:=ej.open hm;clear hm hs hy;simp only [eB.cells];have KK:=(an w.heap.size w).alloc (ag _) (.cells #[.slice a0 m.types.length c0, .slice a1 m.imports.length c1, .slice a2 m.funcs.length c2, .bool m.table.has, .int .i64 m.table.min, .int .i64 m.table.max, .bool m.mem.has, .int .i64 m.mem.min, .int .i64 m.mem.max, .slice a3 m.globals.length c3, .slice a4 m.dY.length c4, .slice a5 m.elems.length c5, .slice a6 m.eh.length c6, .slice a7 m.eA.length c7] 62);have HS:=V (KK.alloc (by rw [aE];omega) (.cells (u0.cells m0) 62));have Mh:=eE.new (w.alloc (.cells #[.slice a0 m.types.length c0, .slice a1 m.imports.length c1, .slice a2 m.funcs.length c2, .bool m.table.has, .int .i64 m.table.min, .int .i64 m.table.max, .bool m.mem.has, .int .i64 m.mem.min, .int .i64 m.mem.max, .slice a3 m.globals.length c3, .slice a4 m.dY.length c4, .slice a5 m.elems.length c5, .slice a6 m.eh.length c6, .slice a7 m.eA.length c7] 62)) (u0.cells m0) 62;rw [aE]at Mh;have HX:=V Mh;simp only [eB.cells,u0,m0]at HX HS;clear KK Mh;go_enter func27,ntmps27;go_wp2_with fail;obtain⟨wA,OQ⟩:∃wA,wA=(w.alloc (.cells #[.slice a0 m.types.length c0, .slice a1 m.imports.length c1, .slice a2 m.funcs.length c2, .bool m.table.has, .int .i64 m.table.min, .int .i64 m.table.max, .bool m.mem.has, .int .i64 m.mem.min, .int .i64 m.mem.max, .slice a3 m.globals.length c3, .slice a4 m.dY.length c4, .slice a5 m.elems.length c5, .slice a6 m.eh.length c6, .slice a7 m.eA.length c7] 62)).alloc (.cells #[.slice none 0 0, .slice none 0 0, .slice none 0 0, .bool false, .int .i64 0, .int .i64 0, .bool false, .int .i64 0, .int .i64 0, .slice none 0 0, .slice none 0 0, .slice none 0 0, .slice none 0 0, .slice none 0 0] 62):=⟨_,rfl⟩;rw [<- OQ]at HS HX⊢;clear OQ;refine(oy m ⟨.slice a0 m.types.length c0, .slice a1 m.imports.length c1, .slice a2 m.funcs.length c2, .slice a3 m.globals.length c3, .slice a4 m.dY.length c4, .slice a5 m.elems.length c5, .slice a6 m.eh.length c6, .slice a7 m.eA.length c7⟩ wA (ej.below HI.out HS.out) HWD.out).mono ?_;rintro e w2 ⟨v,rfl,⟨NI,-⟩ | ⟨-,hv⟩,hb⟩
 ·exact absurd HY.out NI
 replace HX:=V (HX.out.below hb HX.out.lt);replace HS:=V (HS.out.trans (hb.mono HS.out.size));have HV:=V hv;clear hb hv;go_wp2_with fail;refine(pZ v (fy m) w2 HV.out (by have:=HY.out.2;omega)).mono ?_;rintro e w3 ⟨hb,⟨u,m',hd,rfl,hu,-⟩ | ⟨hd,-⟩⟩;rotate_left
 ·rw [HDEC.out]at hd
  cases hd
 rw [HDEC.out]at hd;injection hd with hd;subst hd;have hlow:w.heap.size+1 < w2.heap.size:=HX.out.lt;replace HX:=V (HX.out.below hb HX.out.lt);replace HS:=V (HS.out.trans (hb.mono HS.out.size));have HU:=V hu;clear hb hu HV;obtain⟨b0,k0,b1,k1,b2,k2,b3,k3,b4,k4,b5,k5,b6,k6,b7,k7,rfl⟩:=ej.open HU.out;simp only [eB.cells];have Kw:=(an w3.heap.size w3).alloc (ag _) (.cells #[.slice b0 m.types.length k0, .slice b1 m.imports.length k1, .slice b2 m.funcs.length k2, .bool m.table.has, .int .i64 m.table.min, .int .i64 m.table.max, .bool m.mem.has, .int .i64 m.mem.min, .int .i64 m.mem.max, .slice b3 m.globals.length k3, .slice b4 m.dY.length k4, .slice b5 m.elems.length k5, .slice b6 m.eh.length k6, .slice b7 m.eA.length k7] 62);have HZ:=V (eE.new w3 #[.slice b0 m.types.length k0, .slice b1 m.imports.length k1, .slice b2 m.funcs.length k2, .bool m.table.has, .int .i64 m.table.min, .int .i64 m.table.max, .bool m.mem.has, .int .i64 m.mem.min, .int .i64 m.mem.max, .slice b3 m.globals.length k3, .slice b4 m.dY.length k4, .slice b5 m.elems.length k5, .slice b6 m.eh.length k6, .slice b7 m.eA.length k7] 62);replace HX:=V (HX.out.below Kw HX.out.lt);have HB1:=V Kw;clear Kw;obtain⟨p0,p1,p2,p3,p4,p5,p6,p7,p8,p9,p10,p11,p12,p13⟩:=HX.out.mod;obtain⟨q0,q1,q2,q3,q4,q5,q6,q7,q8,q9,q10,N8,q12,q13⟩:=HX.out.um;go_wp2_with fail;have hx:=((show eE _ (w.heap.size+1) (u0.cells m0) _ from HX.out).oA ⟨.slice b0 m.types.length k0, .slice b1 m.imports.length k1, .slice b2 m.funcs.length k2, .slice b3 m.globals.length k3, .slice b4 m.dY.length k4, .slice b5 m.elems.length k5, .slice b6 m.eh.length k6, .slice b7 m.eA.length k7⟩ m).mf;have Km:=kq (w3.alloc (.cells (eB.cells ⟨.slice b0 m.types.length k0, .slice b1 m.imports.length k1, .slice b2 m.funcs.length k2, .slice b3 m.globals.length k3, .slice b4 m.dY.length k4, .slice b5 m.elems.length k5, .slice b6 m.eh.length k6, .slice b7 m.eA.length k7⟩ m) 62)) (w.heap.size+1) ⟨.slice b0 m.types.length k0, .slice b1 m.imports.length k1, .slice b2 m.funcs.length k2, .slice b3 m.globals.length k3, .slice b4 m.dY.length k4, .slice b5 m.elems.length k5, .slice b6 m.eh.length k6, .slice b7 m.eA.length k7⟩ m;refine aN (eu rfl _ _ rfl hx) rfl ?_;exact⟨_,rfl,ej.ext (ej.ext HU.out (ny (P:=fun _=>False) (dS.dV HB1.out) (fun _ h=>h.elim) (.inl (ag _)))) ((ny Km (fun i hi=> .inl (by omega)) (.inl (ag _))).trans (uj _ (by omega))),(HS.out.trans (HB1.out.mono HS.out.size)).trans (Km.below (by have:=HS.out.size;simp;omega) (fun i hi=>by omega))⟩
structure qA where
 u:eB
 vm:Value
 vs:Value
 vj:Value
 js:List Nat
def zO (j:Nat):List Value:=[.map (some j)]
theorem Fk (j:Nat):(zO j).length=1:=rfl
theorem EU (j:Nat):∀u∈zO j,u.oneCell'=true:=by
 intro u hu;simp only [zO,bJ,bO,cS]at hu;rw [hu];rfl
def sR (iv:qA) (m:ew):Array Value:=
 #[iv.u.types,iv.u.imports,iv.u.funcs, .bool m.table.has, .int .i64 m.table.min, .int .i64 m.table.max, .bool m.mem.has, .int .i64 m.mem.min, .int .i64 m.mem.max,iv.u.globals,iv.u.dY,iv.u.elems,iv.u.eh,iv.u.eA,iv.vm,iv.vs,iv.vj]
structure jk (w:World) (FX:Nat ->Bool) (X:Nat) (iv:qA) (m:ew):Prop where
 kk:eE w X (sR iv m) 93
 fx:FX X=true
 mod:ej (mask (fun k=> !FX k) w) iv.u m
 jumps:dR 72 1 zO w 0 iv.vj iv.js
 fj:∀g,ey iv.vj g ->FX g=true
 maps:∀(k j:Nat) (c:gN),iv.js[k]?=some j ->m.eh[k]?=some c ->fV w j (oB c)/\FX j=true
 len:iv.js.length=m.eh.length
 lt:∀g,FX g=true ->g < w.heap.size
theorem jk.keeps {P:Nat ->Prop} {w w':World} {FX:Nat ->Bool} {X:Nat} {iv:qA} {m:ew} (h:jk w FX X iv m) (hk:dS P w w') (hP:∀g,P g ->FX g=false):jk w' FX X iv m:=by
 have hN:∀g,FX g=true ->¬ P g:=fun g hg hp=>by rw [hP g hp]at hg;cases hg
 refine⟨h.kk.keeps hk (hN X h.fx),h.fx,h.mod.ext (iG hk (fun k _ hp=>by simp [hP k hp]) (fun k _ hp=>hp)),h.jumps.keeps hk (fun g hg=>hN g (h.fj g hg)),h.fj,fun k j c hj hc=>?_,h.len,fun g hg=>bK (h.lt g hg) hk.size⟩;obtain⟨h1,h2⟩:=h.maps k j c hj hc;exact⟨h1.keeps hk (hN j h2),h2⟩
theorem jk.below {w w':World} {FX:Nat ->Bool} {X:Nat} {iv:qA} {m:ew} (h:jk w FX X iv m) (hb:Below w.heap.size w w'):jk w' FX X iv m:=h.keeps (P:=fun _=>False) (dS.dV hb) (fun _ h=>h.elim)
theorem jk.is {w:World} {FX:Nat ->Bool} {X:Nat} {iv:qA} {m:ew} (h:jk w FX X iv m):ej w iv.u m:=h.mod.fP
def wT (w:World) (FM:Nat ->Bool) (p:Value) (e:Option zX):Prop:=
 (e=none/\p= .pointer none)\/∃x X v v',e=some x/\p= .pointer (some ⟨X,0,none⟩)/\eE w X #[v, .int .i64 x.fg,v'] 145/\dU w 0 v x.bytes/\dR 3 1 eZ w 0 v' x.BP/\FM X=true/\(∀g,ey v g ->FM g=true)/\∀g,ey v' g ->FM g=true
def Kd (w:World) (FSs:Nat ->Bool) (p:Value) (e:ze):Prop:=
 ∃X v v',p= .pointer (some ⟨X,0,none⟩)/\eE w X #[v,v'] 147/\dR 3 1 eZ w 0 v e.table/\dR 42 2 gg w 0 v' e.globals/\FSs X=true/\(∀g,ey v g ->FSs g=true)/\∀g,ey v' g ->FSs g=true
theorem dU.lower {w:World} {B B':Nat} {v:Value} {l:List UInt8} (h:dU w B v l) (hB:B' <=B):dU w B' v l:=mC h (fun k hk=>by have:=(eo h hk).1;omega)
theorem wT.keeps {P:Nat ->Prop} {w w':World} {FM:Nat ->Bool} {p:Value} {e:Option zX} (h:wT w FM p e) (hk:dS P w w') (hP:∀g,P g ->FM g=false):wT w' FM p e:=by
 have hN:∀g,FM g=true ->¬ P g:=fun g hg hp=>by rw [hP g hp]at hg;cases hg
 rcases h with h | ⟨x,X,v,v',h1,h2,h3,h4,h5,h6,h7,h8⟩
 ·exact .inl h
 ·exact .inr ⟨x,X,v,v',h1,h2,h3.keeps hk (hN X h6),h4.keeps hk (fun g hg=>hN g (h7 g hg)),h5.keeps hk (fun g hg=>hN g (h8 g hg)),h6,h7,h8⟩
def rm (a b:Nat):Nat ->Bool:=fun g=>decide (a <=g)&&decide (g < b)
theorem kQ {a b g:Nat}:rm a b g=true↔a <=g/\g < b:=by simp [rm]
theorem xH {α:Type} {k:Nat} {enc:α ->List Value} {t:TypeId} {P:Program} (w:World) {ops:Array Oper} {rest:List Oper} {o:Oper} {a:Act} {Q:Exit ->Act ->World ->Prop} (Ob:o.guard=none) (s x:Operand) (ts:TypeId)
  (ho:o.op= .call {callee:= .builtin .append,args:=#[s,x],argTypes:=#[ts,ts]})
  (z:Value) (bytes:Nat) (ht:P.underlying ts=some (.slice t)) (hinf:(P.info? t).map (fun i=>(i.zero,i.size,i.bytes))=some (some z,k,bytes)) (hzs:z.cells.size=k) (h0:0 < k) (MX:bytes <=100000000)
  (B:Nat) (v:Value) (l:List α) (hs:a.eval s=v) (Ki:dR t k enc w B v l) (hk:∀x,(enc x).length=k)
  (b:Value) (m:List α) (hx:a.eval x=b) (hm:ee k enc w b m) (h1:∀y∈m,∀u∈enc y,u.oneCell'=true)
  (Ou:l.length+m.length <=1000000) (KO:B <=w.heap.size)
  (h:∀v' w',dR t k enc w' B v' (l++m) ->dS (ey v) w w' ->eC w v v' ->wpList P ops Q rest (a.put o.dst v') w'):wpList P ops Q (o::rest) a w:=by
 cases m with
 | cons y m=>
  have hm':=hm;obtain⟨ad,cap,rfl,Me,La,hc3⟩:=hm';obtain⟨b,off,rfl,_⟩:=hc3 0 y rfl;exact kA w Ob s x ts ho z bytes ht hinf hzs h0 MX B v l hs Ki hk (y::m) ⟨b,off,none⟩ (y::m).length cap hx hm h1 Ou KO h
 | nil=>
  obtain⟨i0,hi,MY,LG,Mm⟩:=cd hinf;obtain⟨ad,cap,rfl,Me,La,hc3⟩:=hm;have Kl:(l.length+0)*bytes <=140737488355328:=by
   have:(l.length+0)*bytes <=1000000*100000000:=Nat.mul_le_mul (by simpa using Ou) MX;omega
  have key:∃v' w',(Builtin.append_ #[ts,ts] o.type #[v, .slice ad 0 cap]).run P w= .ok v' w'/\dR t k enc w' B v' (l++[])/\dS (ey v) w w'/\eC w v v':=by
   cases ad with
   | some ad=>
    obtain⟨v',w',h1,h2,h3,h4⟩:=sE (P:=P) w B ts o.type t i0 z k bytes ht hi MY LG Mm hzs h0 v l.length (l.flatMap enc) Ki ad 0 cap [] (by simp) (by simp) (by simp) (by simp only [aM]at Ou;simp only [maxLen];omega) Kl KO;exact⟨v',w',h1,by simpa [dR] using h2,h3,h4⟩
   | none=>
    rcases Ki.2 with⟨rfl,hl0⟩ | ⟨g,KE,cur,rfl,hb,hg,hn,hm,hs,NV⟩
    ·refine⟨.slice none 0 0,w,?_,by simpa using Ki,dS.refl _ _,eC.refl _ _⟩
     simp [Builtin.append_,bo ht,sizeOf,typeInfo,hi,Builtin.lenOf,Builtin.firstCells]
    ·refine⟨.slice (some ⟨g,0,none⟩) l.length KE,w,?_,by simpa using Ki,dS.refl _ _,eC.refl _ _⟩
     simp [Builtin.append_,bo ht,sizeOf,typeInfo,hi,Builtin.lenOf,Builtin.firstCells,hn];simp [storeCells]
  obtain⟨v',w',hr,h2,h3,h4⟩:=key;refine dK Ob fun _ hK=>?_;unfold Oper.wp execOp;simp only [ho,resolve,invoke,builtin,cM,cm,cC,dr,bC,cR,hs,hx,hr,aM];exact hK _ _ (h v' w' h2 h3 h4)
theorem za (a:Option Addr) (len cap k:Nat) (h:k <=cap) (wx:World):
  (Instr.slice 30 (.slice a len cap) none (some (.int .i64 k)) none).run prog wx= .ok (.slice a k cap) wx:=by
 have hu:prog.underlying 30=some (.slice 42):=by kernel_rfl
 obtain⟨i0,hi,MY,LG,Mm⟩:=cd kZ;simp [Instr.slice,bo hu,Instr.sliceBounds,Instr.sliceBound,sizeOf,typeInfo,hi,asIntOf,h];cases a <;>simp [Addr.add]
theorem D1 (a:Option Addr) (len cap k:Nat) (h:k <=cap) (wx:World):
  (Instr.slice 35 (.slice a len cap) none (some (.int .i64 k)) none).run prog wx= .ok (.slice a k cap) wx:=by
 have hu:prog.underlying 35=some (.slice 40):=by kernel_rfl
 obtain⟨i0,hi,MY,LG,Mm⟩:=cd mJ;simp [Instr.slice,bo hu,Instr.sliceBounds,Instr.sliceBound,sizeOf,typeInfo,hi,asIntOf,h];cases a <;>simp [Addr.add]
theorem eE.pE {w:World} {X:Nat} {t:TypeId} {a b c:Int} {v:Value} (h:eE w X #[.int .i64 a, .int .i64 b, .int .i64 c,v] t):(loadVar 32 ⟨X,0,none⟩).run prog w= .ok (.agg #[.int .i64 a, .int .i64 b, .int .i64 c,v]) w:=by
 have hs:(prog.underlying 32).map (fun d=>match d with | .struct _ | .array _ _=>true | _=>false)=some true:=by kernel_rfl
 obtain⟨d,h1,h2⟩:=bB.1 hs;exact bZ w X t 32 _ _ d h h1 (by cases d <;>first | rfl | (exfalso;simp at h2)) (by kernel_rfl)
def oc (o:jm) (vv:Value):Value:= .agg #[.int .i64 o.kind, .int .i64 o.po, .int .i64 o.fn,vv]
def jj (v:Value) (w:World) (e:Ending) (w':World):Prop:=e= .returned v/\Below w.heap.size w w'
theorem tB (w:World):Calls prog 38 #[] w (jj (.agg #[.int .i64 1, .int .i64 0, .int .i64 0, .slice none 0 0]) w):=by
 go_enter func38,ntmps38;go_wp2_with fail;refine aN (eu rfl _ _ rfl (eE.pE (eE.new w #[.int .i64 1, .int .i64 0, .int .i64 0, .slice none 0 0] 32))) rfl ⟨rfl,(an _ _).alloc (ag _) _⟩
theorem zI (w:World):Calls prog 35 #[] w (jj (.agg #[.int .i64 5, .int .i64 0, .int .i64 0, .slice none 0 0]) w):=by
 go_enter func35,ntmps35;go_wp2_with fail;refine aN (eu rfl _ _ rfl (eE.pE (eE.new w #[.int .i64 5, .int .i64 0, .int .i64 0, .slice none 0 0] 32))) rfl ⟨rfl,(an _ _).alloc (ag _) _⟩
theorem zF (w:World) (n:Int):Calls prog 46 #[.int .i64 n] w (jj (.agg #[.int .i64 4, .int .i64 n, .int .i64 0, .slice none 0 0]) w):=by
 go_enter func46,ntmps46;go_wp2_with fail;refine aN (eu rfl _ _ rfl (eE.pE (eE.new w #[.int .i64 4, .int .i64 n, .int .i64 0, .slice none 0 0] 32))) rfl ⟨rfl,(an _ _).alloc (ag _) _⟩
def Hp (D b o gv n cap j:Nat) (x:fb) (w:World):Prop:=
 w.cell? ⟨D,1,none⟩=some (.pointer (some ⟨b,o,none⟩))/\w.cell? ⟨b,o,none⟩=some (.slice (some ⟨gv,0,none⟩) n cap)/\w.cell? ⟨gv,j*2,none⟩=some (.int .i64 x.kind)/\w.cell? ⟨gv,j*2+1,none⟩=some (.int .i64 x.n)
theorem yT (w:World) (D b o B:Nat) (uv:Value) (l:List fb) (x:fb) (hd:w.cell? ⟨D,1,none⟩=some (.pointer (some ⟨b,o,none⟩))) (hc:w.cell? ⟨b,o,none⟩=some uv) (hv:dR 42 2 gg w B uv (l++[x])):
  Calls prog 18 #[.pointer (some ⟨D,0,none⟩), .int .i64 0] w (jj (.agg #[.int .i64 x.kind, .int .i64 x.n]) w):=by
 obtain⟨gv,cv,cur,Ls,-,hgl,hgb,LC,Mr⟩:=hv.open (by simp);have hlen:(l++[x]).length=l.length+1:=by simp
 rw [hlen]at Ls LC;subst Ls;have Mh:w.cell? ⟨gv,l.length*2,none⟩=some (.int .i64 x.kind):=by
  have:=dR.cell gh hv (i:=l.length) (j:=0) (x:=x) (u:= .int .i64 x.kind) (by simp) rfl
  rwa [aK]at this
 have hx1:w.cell? ⟨gv,l.length*2+1,none⟩=some (.int .i64 x.n):=dR.cell gh hv (i:=l.length) (j:=1) (x:=x) (u:= .int .i64 x.n) (by simp) rfl;have hDl:=aS w _ hd;have Lb:=aS w _ hc;have hS:Hp D b o gv (l.length+1) cv l.length x (w.alloc (.cells #[.int .i64 0, .int .i64 0] 42)).drew:=by
  have hb:=(an w.heap.size w).alloc (ag _) (.cells #[.int .i64 0, .int .i64 0] 42);exact⟨(hb.cell hDl).trans hd,(hb.cell Lb).trans hc,(hb.cell hgl).trans Mh,(hb.cell hgl).trans hx1⟩
 have HX:=V (eE.new w #[.int .i64 0, .int .i64 0] 42).drew;have Kz:=V ((an w.heap.size w).alloc (ag _) (.cells #[.int .i64 0, .int .i64 0] 42)).drew;unfold maxLen at Mr;clear hlen Mh hx1 hd hc hv hgb hDl Lb;go_enter func18,ntmps18;go_wp2_with fail;refine eP (Hp D b o gv (l.length+1) cv l.length x) 20 (up 0 20 []) (by kernel_rfl) (by kernel_rfl) hS ?_;clear hS;generalize(w.alloc (.cells #[.int .i64 0, .int .i64 0] 42)).drew=w1 at HX Kz⊢;iterate 20 (first | (apply sk rfl rfl;simp only [pt]) | (apply dT rfl rfl rfl;·(rintro w' ⟨t0,t1,t2,t3⟩;go_wp2;exact⟨rfl,rfl,rfl⟩)))
 refine fI rfl rfl ?_;obtain⟨x0,x1,z0,z1⟩:=HX.out.two;go_wp2_with fail;refine⟨trivial,?_⟩;refine aD ?_;clear x0 x1 z0 z1;go_wp2_with fail;have NF:=HX.out.mX (.int .i64 x.kind) (.int .i64 x.n);refine aN (eu rfl _ _ rfl NF.ma) rfl ⟨rfl,Kz.out.trans ((fC w1 w.heap.size _ _).below Kz.out.size (fun i hi=>by omega))⟩
theorem Dt (w:World) (D b o B:Nat) (uv:Value) (l:List fb) (x y:fb) (hd:w.cell? ⟨D,1,none⟩=some (.pointer (some ⟨b,o,none⟩))) (hc:w.cell? ⟨b,o,none⟩=some uv) (hv:dR 42 2 gg w B uv (l++[x,y])):
  Calls prog 18 #[.pointer (some ⟨D,0,none⟩), .int .i64 1] w (jj (.agg #[.int .i64 x.kind, .int .i64 x.n]) w):=by
 obtain⟨gv,cv,cur,Ls,-,hgl,hgb,LC,Mr⟩:=hv.open (by simp);have hlen:(l++[x,y]).length=l.length+2:=by simp
 rw [hlen]at Ls LC;subst Ls;have Mh:w.cell? ⟨gv,l.length*2,none⟩=some (.int .i64 x.kind):=by
  have:=dR.cell gh hv (i:=l.length) (j:=0) (x:=x) (u:= .int .i64 x.kind) (by simp) rfl
  rwa [aK]at this
 have hx1:w.cell? ⟨gv,l.length*2+1,none⟩=some (.int .i64 x.n):=dR.cell gh hv (i:=l.length) (j:=1) (x:=x) (u:= .int .i64 x.n) (by simp) rfl;have hDl:=aS w _ hd;have Lb:=aS w _ hc;have hS:Hp D b o gv (l.length+2) cv l.length x (w.alloc (.cells #[.int .i64 0, .int .i64 0] 42)).drew:=by
  have hb:=(an w.heap.size w).alloc (ag _) (.cells #[.int .i64 0, .int .i64 0] 42);exact⟨(hb.cell hDl).trans hd,(hb.cell Lb).trans hc,(hb.cell hgl).trans Mh,(hb.cell hgl).trans hx1⟩
 have HX:=V (eE.new w #[.int .i64 0, .int .i64 0] 42).drew;have Kz:=V ((an w.heap.size w).alloc (ag _) (.cells #[.int .i64 0, .int .i64 0] 42)).drew;unfold maxLen at Mr;clear hlen Mh hx1 hd hc hv hgb hDl Lb;go_enter func18,ntmps18;go_wp2_with fail;refine eP (Hp D b o gv (l.length+2) cv l.length x) 20 (up 0 20 []) (by kernel_rfl) (by kernel_rfl) hS ?_;clear hS;generalize(w.alloc (.cells #[.int .i64 0, .int .i64 0] 42)).drew=w1 at HX Kz⊢;iterate 20 (first | (apply sk rfl rfl;simp only [pt]) | (apply dT rfl rfl rfl;·(rintro w' ⟨t0,t1,t2,t3⟩;go_wp2;exact⟨rfl,rfl,rfl⟩)))
 refine fI rfl rfl ?_;obtain⟨x0,x1,z0,z1⟩:=HX.out.two;go_wp2_with fail;refine⟨trivial,?_⟩;refine aD ?_;clear x0 x1 z0 z1;go_wp2_with fail;have NF:=HX.out.mX (.int .i64 x.kind) (.int .i64 x.n);refine aN (eu rfl _ _ rfl NF.ma) rfl ⟨rfl,Kz.out.trans ((fC w1 w.heap.size _ _).below Kz.out.size (fun i hi=>by omega))⟩
theorem ee.at {α:Type} {k:Nat} {enc:α ->List Value} {w:World} {v:Value} {l:List α} (h:ee k enc w v l) {i:Nat} {x:α} (hx:l[i]?=some x):∃b off cap,v= .slice (some ⟨b,off,none⟩) l.length cap/\l.length <=cap/\cap <=9223372036854775807/\b < w.heap.size/\∀j u,(enc x)[j]?=some u ->w.cell? ⟨b,off+i*k+j,none⟩=some u:=by
 obtain⟨a,cap,rfl,h1,h2,h3⟩:=h;obtain⟨b,off,rfl,Kq,hc⟩:=h3 i x hx;exact⟨b,off,cap,rfl,h1,by simpa [maxLen] using h2,Kq,hc⟩
theorem ee.sl {α:Type} {k:Nat} {enc:α ->List Value} {w:World} {v:Value} {l:List α} (h:ee k enc w v l):∃a cap,v= .slice a l.length cap/\l.length <=cap/\cap <=9223372036854775807:=by
 obtain⟨a,cap,rfl,h1,h2,h3⟩:=h;exact⟨a,cap,rfl,h1,by simpa [maxLen] using h2⟩
theorem ea.at {α β:Type} {k:Nat} {enc:α × β ->List Value} {inner:World ->α ->β ->Prop} {w:World} {v:Value} {l:List α} (h:ea k enc inner w v l) {i:Nat} {x:α} (hx:l[i]?=some x):∃b off cap u,v= .slice (some ⟨b,off,none⟩) l.length cap/\l.length <=cap/\cap <=9223372036854775807/\b < w.heap.size/\(∀j v,(enc (x,u))[j]?=some v ->w.cell? ⟨b,off+i*k+j,none⟩=some v)/\inner w x u:=by
 obtain⟨a,cap,rfl,h1,h2⟩:=h.slice;obtain⟨b,off,u,rfl,Kq,hc,hi⟩:=h.get hx;exact⟨b,off,cap,u,rfl,h1,h2,Kq,hc,hi⟩
def rn (FX:Nat ->Bool) (w:World):World:=mask (fun k=> !FX k) w
theorem jG {FX:Nat ->Bool} {w w':World} (h:Below w.heap.size w w'):Ext (rn FX w) (rn FX w'):=iG (dS.dV (S:=fun _=>False) h) (fun _ _ h=>h.elim) (fun _ _ h=>h)
theorem tY {P:Nat ->Prop} {FX:Nat ->Bool} {w w':World} (h:dS P w w') (hP:∀g,P g ->FX g=false):Ext (rn FX w) (rn FX w'):=iG h (fun k _ hk=>by simp [hP k hk]) (fun _ _ h=>h)
theorem vM (FX:Nat ->Bool) (w:World):Ext (rn FX w) w:=rM (P:=fun _=>False) (dS.refl _ _) (fun _ _ h=>h.elim)
def GP (FX:Nat ->Bool) (iv:qA) (k:Nat) (c:gN) (w:World) (e:Ending) (w':World):Prop:=∃v j,e= .returned (.tuple #[v, .map (some j)])/\gd (rn FX w') v c.body/\iv.js[k]?=some j/\Below w.heap.size w w'
def Hu (X b off b2:Nat) (PL u16 u v:Value) (k:Nat) (w:World):Prop:=
 w.cell? ⟨X,12,none⟩=some PL/\w.cell? ⟨X,16,none⟩=some u16/\w.cell? ⟨b,off+k*2+1,none⟩=some u/\w.cell? ⟨b2,k,none⟩=some v
theorem Fp (w:World) (FX:Nat ->Bool) (X:Nat) (iv:qA) (m:ew) (h:jk w FX X iv m) (k:Nat) (c:gN) (hc:m.eh[k]?=some c) (f:Int) (hf:f=((m.imports.length+k:Nat):Int)) (hk:m.imports.length+k <=100000):
  Calls prog 17 #[.pointer (some ⟨X,0,none⟩), .int .i64 f] w (GP FX iv k c w):=by
 subst hf;have Lg:=(aL.1 hc).1;obtain⟨j,hj⟩:∃j,iv.js[k]?=some j:=⟨_,aq (by rw [h.len];exact Lg)⟩;obtain⟨b,off,cap,u,Mz,K7,Mr,hb,KH,hi⟩:=ea.at h.mod.2.2.2.2.2.2.1 hc;obtain⟨ai,ci,h1,-,hcim⟩:=h.is.2.1.sl;have hj2:=h.jumps.fD Fk;obtain⟨b2,KM,Kn,h16,hcap2,hcm2,Kl,hcj⟩:=ee.at hj2 hj;obtain⟨g,LU,cur3,h16',-,-,-,-,-⟩:=h.jumps.open (by intro e;rw [e]at hj;simp at hj);have e1:=h16.symm.trans h16';injection e1 with e1 _ _;injection e1 with e1;injection e1 with e1 e2;subst e1 e2;have x1:w.cell? ⟨X,1,none⟩=some (.slice ai m.imports.length ci):=by rw [<- h1];exact h.kk.cell 1
 have x12:w.cell? ⟨X,12,none⟩=some (.slice (some ⟨b,off,none⟩) m.eh.length cap):=by rw [<- Mz];exact h.kk.cell 12
 have x16:w.cell? ⟨X,16,none⟩=some (.slice (some ⟨b2,0,none⟩) iv.js.length Kn):=by rw [<- h16];exact h.kk.cell 16
 have y1:w.cell? ⟨b,off+k*2+1,none⟩=some u.2:=(fX (KH 1 _ rfl)).2;have y2:w.cell? ⟨b2,k,none⟩=some (.map (some j)):=by
  have:=hcj 0 _ rfl
  rwa [bX,bj,aK]at this
 obtain⟨au,cu,hue,-,-⟩:=ea.slice hi.1.2;have hS:Hu X b off b2 (.slice (some ⟨b,off,none⟩) m.eh.length cap) (.slice (some ⟨b2,0,none⟩) iv.js.length Kn) (.slice au c.body.length cu) (.map (some j)) k w.drew:=⟨x12,x16,by rw [<- hue];exact y1,y2⟩;have HB:=V (show gd (rn FX w) (.slice au c.body.length cu) c.body by rw [<- hue];exact hi.1.2);have HJ:=V hj;have hkl2:k < iv.js.length:=(aL.1 hj).1;clear h hc hj KH hi hj2 hcj Mz h1 h16 h16' x12 x16 y1 y2 hue;go_enter func17,ntmps17;go_wp2_with fail;refine ed (Hu X b off b2 (.slice (some ⟨b,off,none⟩) m.eh.length cap) (.slice (some ⟨b2,0,none⟩) iv.js.length Kn) (.slice au c.body.length cu) (.map (some j)) k) (up 0 18 []) (by kernel_rfl) (by kernel_rfl) hS ?_;clear hS;iterate 18 (first | (apply sk rfl rfl;simp only [pt]) | (apply dT rfl rfl rfl;·(rintro w' ⟨t0,t1,t2,t3⟩;go_wp2;exact⟨rfl,rfl,rfl⟩)))
 refine eH ?_;refine aD ?_;go_wp2_with fail
 go_ret2
 have hb:=(an w.heap.size w).drew;exact⟨_,j,rfl,ea.ext HB.out (jG hb) (fun _ _ h=>h.ext (jG hb)),HJ.out,hb⟩
theorem mR (w:World) (FX:Nat ->Bool) (X:Nat) (iv:qA) (m:ew) (h:jk w FX X iv m) (f:Int):
  Calls prog 43 #[.pointer (some ⟨X,0,none⟩), .int .i64 f] w (jj (.bool (mA m f)) w):=by
 obtain⟨ai,ci,h1,-,hcim⟩:=h.is.2.1.sl;have x1:w.cell? ⟨X,1,none⟩=some (.slice ai m.imports.length ci):=by rw [<- h1];exact h.kk.cell 1
 clear h h1;by_cases q0:f < 0
 ·have f0:decide (0 <=f)=false:=aA (by omega)
  have f1:decide (f < 0)=true:=az q0;have HR:=V (show mA m f=false by simp [mA,f0]);clear q0;go_enter func43,ntmps43;go_wp2_with fail;go_ret;exact⟨by rw [HR.out];rfl,an _ _⟩
 have f0:decide (0 <=f)=true:=az (by omega);have f1:decide (f < 0)=false:=aA q0;by_cases q:f < m.imports.length
 ·have f2:decide (f < (m.imports.length:Int))=true:=az q
  have HR:=V (show mA m f=true by simp [mA,f0,f2]);clear q q0;go_enter func43,ntmps43;go_wp2_with fail;go_ret;exact⟨by rw [HR.out];rfl,an _ _⟩
 ·have f2:decide (f < (m.imports.length:Int))=false:=aA q
  have HR:=V (show mA m f=false by simp [mA,f0,f2]);clear q q0;go_enter func43,ntmps43;go_wp2_with fail;go_ret;exact⟨by rw [HR.out];rfl,an _ _⟩
def AO (FX:Nat ->Bool) (t:gy) (w:World) (e:Ending) (w':World):Prop:=∃u1 u2,e= .returned (.tuple #[.agg #[u1,u2], .bool true])/\ee 1 eZ (rn FX w') u1 t.params/\ee 1 eZ (rn FX w') u2 t.results/\Below w.heap.size w w'
def tV (X b off bt Lz ti:Nat) (v0 v1 v2 u1 u2:Value) (n:Int) (w:World):Prop:=
 w.cell? ⟨X,0,none⟩=some v0/\w.cell? ⟨X,1,none⟩=some v1/\w.cell? ⟨X,2,none⟩=some v2/\w.cell? ⟨b,off,none⟩=some (.int .i64 n)/\w.cell? ⟨bt,Lz+ti*2,none⟩=some u1/\w.cell? ⟨bt,Lz+ti*2+1,none⟩=some u2
theorem tV.keeps {P:Nat ->Prop} {X b off bt Lz ti:Nat} {v0 v1 v2 u1 u2:Value} {n:Int} {w w':World} (h:tV X b off bt Lz ti v0 v1 v2 u1 u2 n w) (hk:dS P w w') (hP:∀g,P g ->w.heap.size <=g\/¬ (g=X\/g=b\/g=bt)):tV X b off bt Lz ti v0 v1 v2 u1 u2 n w':=by
 obtain⟨h1,h2,h3,h4,h5,h6⟩:=h;have key:∀{a:Addr} {v:Value},w.cell? a=some v ->(a.block=X\/a.block=b\/a.block=bt) ->w'.cell? a=some v:=fun ha hb=>by
  have hl:=aS w _ ha;exact(hk.cell hl (fun hp=>(hP _ hp).elim (fun h=>by omega) (fun h=>h hb))).trans ha
 exact⟨key h1 (.inl rfl),key h2 (.inl rfl),key h3 (.inl rfl),key h4 (.inr (.inl rfl)),key h5 (.inr (.inr rfl)),key h6 (.inr (.inr rfl))⟩
theorem Ea (w:World) (FX:Nat ->Bool) (X:Nat) (iv:qA) (m:ew) (h:jk w FX X iv m) (i ti:Nat) (x:jd) (t:gy) (hx:m.imports[i]?=some x) (hti:x.type=(ti:Int)) (ht:m.types[ti]?=some t) (f:Int) (hf:f=(i:Int)) (hk:m.imports.length+m.funcs.length <=100000):
  Calls prog 41 #[.pointer (some ⟨X,0,none⟩), .int .i64 f] w (AO FX t w):=by
 subst hf;have hil:=(aL.1 hx).1;obtain⟨bt,Lz,Oq,ut,h0,hcapt,hcmt,hbt,M5,hit⟩:=ea.at h.mod.1 ht;obtain⟨ap,cp,hpe,-,-⟩:=hit.1.1.sl;obtain⟨ar,cr,hre,-,-⟩:=hit.1.2.sl;have htl:=(aL.1 ht).1;have x0:w.cell? ⟨X,0,none⟩=some (.slice (some ⟨bt,Lz,none⟩) m.types.length Oq):=by rw [<- h0];exact h.kk.cell 0
 have y1:w.cell? ⟨bt,Lz+ti*2,none⟩=some (.slice ap t.params.length cp):=by rw [<- hpe];exact(fX (M5 0 _ rfl)).2
 have y2:w.cell? ⟨bt,Lz+ti*2+1,none⟩=some (.slice ar t.results.length cr):=by rw [<- hre];exact(fX (M5 1 _ rfl)).2
 have HP:=V (show ee 1 eZ (rn FX w) (.slice ap t.params.length cp) t.params by rw [<- hpe];exact hit.1.1);have HR:=V (show ee 1 eZ (rn FX w) (.slice ar t.results.length cr) t.results by rw [<- hre];exact hit.1.2);have PR:=h.kk.lt;rw [gX]at hbt;clear M5 hit hpe hre h0;obtain⟨b,off,ci,h1,hci,hcim,Lb,KH⟩:=ee.at h.is.2.1 hx;obtain⟨af,cf,h2,O6,hcfm⟩:=h.is.2.2.1.sl;have x1:w.cell? ⟨X,1,none⟩=some (.slice (some ⟨b,off,none⟩) m.imports.length ci):=by rw [<- h1];exact h.kk.cell 1
 have x2:w.cell? ⟨X,2,none⟩=some (.slice af m.funcs.length cf):=by rw [<- h2];exact h.kk.cell 2
 have y0:w.cell? ⟨b,off+i*3+2,none⟩=some (.int .i64 (ti:Int)):=by
  have:=KH 2 _ rfl;rw [<- hti];exact this
 have hS:tV X b (off+i*3+2) bt Lz ti (.slice (some ⟨bt,Lz,none⟩) m.types.length Oq) (.slice (some ⟨b,off,none⟩) m.imports.length ci) (.slice af m.funcs.length cf) (.slice ap t.params.length cp) (.slice ar t.results.length cr) (ti:Int) w:=⟨x0,x1,x2,y0,y1,y2⟩;have HN:=V (show X < w.heap.size/\b < w.heap.size/\bt < w.heap.size from⟨PR,Lb,hbt⟩);have HIM:=V (show mA m (i:Int)=true by simp [mA];omega);have f1:decide (((i:Nat):Int) < 0)=false:=aA (by omega);have f2:decide ((m.imports.length:Int)+(m.funcs.length:Int) <=(i:Int))=false:=aA (by omega);have f3:decide (m.imports.length+m.funcs.length <=i)=false:=aA (by omega);clear x0 x1 x2 y0 y1 y2 KH h1 h2 hx ht hti Lb PR hbt;have KK:=(an w.heap.size w).alloc (ag _) (.cells #[.slice none 0 0, .slice none 0 0] 109);have HX:=V (eE.new w #[.slice none 0 0, .slice none 0 0] 109).drew;have HB:=V KK.drew;have HI:=V (mR (w.alloc (.cells #[.slice none 0 0, .slice none 0 0] 109)).drew FX X iv m (h.below KK.drew) ((i:Nat):Int));have hS1:=hS.keeps (dS.dV (S:=fun _=>False) KK.drew) (fun _ h=>h.elim);clear KK hS h;go_enter func41,ntmps41;go_wp2_with fail;refine ed (tV X b (off+i*3+2) bt Lz ti (.slice (some ⟨bt,Lz,none⟩) m.types.length Oq) (.slice (some ⟨b,off,none⟩) m.imports.length ci) (.slice af m.funcs.length cf) (.slice ap t.params.length cp) (.slice ar t.results.length cr) (ti:Int)) (up 0 23 []) (by kernel_rfl) (by kernel_rfl) hS1 ?_;iterate 23 (first | (apply sk rfl rfl;simp only [pt]) | (apply dT rfl rfl rfl;·(rintro w' ⟨t0,t1,t2,t3,t4,t5⟩;go_wp2;exact⟨rfl,rfl,rfl⟩)))
 refine eH ?_;refine aD ?_;generalize(w.alloc (.cells #[.slice none 0 0, .slice none 0 0] 109)).drew=w1 at HX HB HI hS1⊢;go_wp2_with fail;refine(HI.out).mono ?_;rintro e w2 ⟨rfl,hb⟩;rw [HIM.out];replace HX:=V (HX.out.below hb HX.out.lt);replace HB:=V (HB.out.trans (hb.mono HB.out.size));have P2:tV X b (off+i*3+2) bt Lz ti (.slice (some ⟨bt,Lz,none⟩) m.types.length Oq) (.slice (some ⟨b,off,none⟩) m.imports.length ci) (.slice af m.funcs.length cf) (.slice ap t.params.length cp) (.slice ar t.results.length cr) (ti:Int) w2.drew:=(hS1.keeps (dS.dV (S:=fun _=>False) hb) (fun _ h=>h.elim)).keeps (dS.dV (S:=fun _=>False) (an _ _).drew) (fun _ h=>h.elim);have HXD:=V HX.out.drew;have Pe:=V HB.out.drew;clear hb hS1 HI f1 f2 f3;go_wp2_with fail;refine ed (tV X b (off+i*3+2) bt Lz ti (.slice (some ⟨bt,Lz,none⟩) m.types.length Oq) (.slice (some ⟨b,off,none⟩) m.imports.length ci) (.slice af m.funcs.length cf) (.slice ap t.params.length cp) (.slice ar t.results.length cr) (ti:Int)) (up 0 16 ((16,false)::(17,true)::[])) (by kernel_rfl) (by kernel_rfl) P2 ?_;generalize w2.drew=w3 at HXD Pe P2⊢;iterate 16 (first | (apply sk rfl rfl;simp only [pt]) | (apply dT rfl rfl rfl;·(rintro w' ⟨t0,t1,t2,t3,t4,t5⟩;go_wp2;exact⟨rfl,rfl,rfl⟩)))
 refine dZ rfl rfl ?_;obtain⟨x0,x1,z0,z1⟩:=HXD.out.two;go_wp2_with fail;have Km:=fC w3 w.heap.size (.slice ap t.params.length cp) (.slice ar t.results.length cr);refine⟨P2.keeps Km (fun g hg=> .inr (by have:=HN.out;omega)),?_⟩;have NF:=HXD.out.mX (.slice ap t.params.length cp) (.slice ar t.results.length cr);have HL:=V NF.kN;have MG:=V (Pe.out.trans (Km.below Pe.out.size (fun i hi=>by omega)));clear Km NF x0 x1 z0 z1 P2;iterate 1 (first | (apply sk rfl rfl;simp only [pt]) | (apply dT rfl rfl rfl;·(rintro w' ⟨t0,t1,t2,t3,t4,t5⟩;go_wp2;exact⟨rfl,rfl,rfl⟩)))
 refine eH ?_;refine aD ?_;go_wp2_with fail;refine aN (fa rfl _ _ rfl HL.out) rfl ?_;exact⟨_,_,rfl,HP.out.ext (jG MG.out),HR.out.ext (jG MG.out),MG.out⟩
theorem Fs (w:World) (FX:Nat ->Bool) (X:Nat) (iv:qA) (m:ew) (h:jk w FX X iv m) (i ti:Nat) (t:gy) (hx:m.funcs[i]?=some (ti:Int)) (ht:m.types[ti]?=some t) (f:Int) (hf:f=((m.imports.length+i:Nat):Int)) (hk:m.imports.length+m.funcs.length <=100000):
  Calls prog 41 #[.pointer (some ⟨X,0,none⟩), .int .i64 f] w (AO FX t w):=by
 subst hf;have hil:=(aL.1 hx).1;obtain⟨bt,Lz,Oq,ut,h0,hcapt,hcmt,hbt,M5,hit⟩:=ea.at h.mod.1 ht;obtain⟨ap,cp,hpe,-,-⟩:=hit.1.1.sl;obtain⟨ar,cr,hre,-,-⟩:=hit.1.2.sl;have htl:=(aL.1 ht).1;have x0:w.cell? ⟨X,0,none⟩=some (.slice (some ⟨bt,Lz,none⟩) m.types.length Oq):=by rw [<- h0];exact h.kk.cell 0
 have y1:w.cell? ⟨bt,Lz+ti*2,none⟩=some (.slice ap t.params.length cp):=by rw [<- hpe];exact(fX (M5 0 _ rfl)).2
 have y2:w.cell? ⟨bt,Lz+ti*2+1,none⟩=some (.slice ar t.results.length cr):=by rw [<- hre];exact(fX (M5 1 _ rfl)).2
 have HP:=V (show ee 1 eZ (rn FX w) (.slice ap t.params.length cp) t.params by rw [<- hpe];exact hit.1.1);have HR:=V (show ee 1 eZ (rn FX w) (.slice ar t.results.length cr) t.results by rw [<- hre];exact hit.1.2);have PR:=h.kk.lt;rw [gX]at hbt;clear M5 hit hpe hre h0;obtain⟨b,off,cf,h2,O6,hcfm,Lb,KH⟩:=ee.at h.is.2.2.1 hx;obtain⟨ai,ci,h1,hci,hcim⟩:=h.is.2.1.sl;have x1:w.cell? ⟨X,1,none⟩=some (.slice ai m.imports.length ci):=by rw [<- h1];exact h.kk.cell 1
 have x2:w.cell? ⟨X,2,none⟩=some (.slice (some ⟨b,off,none⟩) m.funcs.length cf):=by rw [<- h2];exact h.kk.cell 2
 have y0:w.cell? ⟨b,off+i,none⟩=some (.int .i64 (ti:Int)):=by
  have:=KH 0 _ rfl
  rwa [bj,aK]at this
 have hS:tV X b (off+i) bt Lz ti (.slice (some ⟨bt,Lz,none⟩) m.types.length Oq) (.slice ai m.imports.length ci) (.slice (some ⟨b,off,none⟩) m.funcs.length cf) (.slice ap t.params.length cp) (.slice ar t.results.length cr) (ti:Int) w:=⟨x0,x1,x2,y0,y1,y2⟩;have HN:=V (show X < w.heap.size/\b < w.heap.size/\bt < w.heap.size from⟨PR,Lb,hbt⟩);have HIM:=V (show mA m ((m.imports.length+i:Nat):Int)=false by simp [mA];omega);have f1:decide (((m.imports.length+i:Nat):Int) < 0)=false:=aA (by omega);have f2:decide ((m.imports.length:Int)+(m.funcs.length:Int) <=(m.imports.length:Int)+(i:Int))=false:=aA (by omega);have f3:decide (m.imports.length+m.funcs.length <=m.imports.length+i)=false:=aA (by omega);clear x0 x1 x2 y0 y1 y2 KH h1 h2 hx ht Lb PR hbt;have KK:=(an w.heap.size w).alloc (ag _) (.cells #[.slice none 0 0, .slice none 0 0] 109);have HX:=V (eE.new w #[.slice none 0 0, .slice none 0 0] 109).drew;have HB:=V KK.drew;have HI:=V (mR (w.alloc (.cells #[.slice none 0 0, .slice none 0 0] 109)).drew FX X iv m (h.below KK.drew) ((m.imports.length+i:Nat):Int));have hS1:=hS.keeps (dS.dV (S:=fun _=>False) KK.drew) (fun _ h=>h.elim);clear KK hS h;go_enter func41,ntmps41;go_wp2_with fail;refine ed (tV X b (off+i) bt Lz ti (.slice (some ⟨bt,Lz,none⟩) m.types.length Oq) (.slice ai m.imports.length ci) (.slice (some ⟨b,off,none⟩) m.funcs.length cf) (.slice ap t.params.length cp) (.slice ar t.results.length cr) (ti:Int)) (up 0 23 []) (by kernel_rfl) (by kernel_rfl) hS1 ?_;iterate 23 (first | (apply sk rfl rfl;simp only [pt]) | (apply dT rfl rfl rfl;·(rintro w' ⟨t0,t1,t2,t3,t4,t5⟩;go_wp2;exact⟨rfl,rfl,rfl⟩)))
 refine eH ?_;refine aD ?_;generalize(w.alloc (.cells #[.slice none 0 0, .slice none 0 0] 109)).drew=w1 at HX HB HI hS1⊢;go_wp2_with fail;refine(HI.out).mono ?_;rintro e w2 ⟨rfl,hb⟩;rw [HIM.out];replace HX:=V (HX.out.below hb HX.out.lt);replace HB:=V (HB.out.trans (hb.mono HB.out.size));have P2:tV X b (off+i) bt Lz ti (.slice (some ⟨bt,Lz,none⟩) m.types.length Oq) (.slice ai m.imports.length ci) (.slice (some ⟨b,off,none⟩) m.funcs.length cf) (.slice ap t.params.length cp) (.slice ar t.results.length cr) (ti:Int) w2.drew:=(hS1.keeps (dS.dV (S:=fun _=>False) hb) (fun _ h=>h.elim)).keeps (dS.dV (S:=fun _=>False) (an _ _).drew) (fun _ h=>h.elim);have HXD:=V HX.out.drew;have Pe:=V HB.out.drew;clear hb hS1 HI f1 f2 f3;go_wp2_with fail;refine ed (tV X b (off+i) bt Lz ti (.slice (some ⟨bt,Lz,none⟩) m.types.length Oq) (.slice ai m.imports.length ci) (.slice (some ⟨b,off,none⟩) m.funcs.length cf) (.slice ap t.params.length cp) (.slice ar t.results.length cr) (ti:Int)) (up 0 22 ((22,false)::(23,true)::[])) (by kernel_rfl) (by kernel_rfl) P2 ?_;generalize w2.drew=w3 at HXD Pe P2⊢;iterate 22 (first | (apply sk rfl rfl;simp only [pt]) | (apply dT rfl rfl rfl;·(rintro w' ⟨t0,t1,t2,t3,t4,t5⟩;go_wp2;exact⟨rfl,rfl,rfl⟩)))
 refine dZ rfl rfl ?_;obtain⟨x0,x1,z0,z1⟩:=HXD.out.two;go_wp2_with fail;have Km:=fC w3 w.heap.size (.slice ap t.params.length cp) (.slice ar t.results.length cr);refine⟨P2.keeps Km (fun g hg=> .inr (by have:=HN.out;omega)),?_⟩;have NF:=HXD.out.mX (.slice ap t.params.length cp) (.slice ar t.results.length cr);have HL:=V NF.kN;have MG:=V (Pe.out.trans (Km.below Pe.out.size (fun i hi=>by omega)));clear Km NF x0 x1 z0 z1 P2;iterate 1 (first | (apply sk rfl rfl;simp only [pt]) | (apply dT rfl rfl rfl;·(rintro w' ⟨t0,t1,t2,t3,t4,t5⟩;go_wp2;exact⟨rfl,rfl,rfl⟩)))
 refine eH ?_;refine aD ?_;go_wp2_with fail;refine aN (fa rfl _ _ rfl HL.out) rfl ?_;exact⟨_,_,rfl,HP.out.ext (jG MG.out),HR.out.ext (jG MG.out),MG.out⟩
end Go.Proofs.YthbjdhjppbcneaaGreatDoor
