import Derived.Test.YthbjdhjppbcneaaGreatDoorBlocksJ11
import Derived.Maps.OwnSet
namespace Go.Proofs.YthbjdhjppbcneaaGreatDoor
set_option maxRecDepth 100000
set_option maxHeartbeats 20000000
open Go.RowKit Tryz
open Lib renaming hid->V
set_option linter.all false
structure Ar where
 table:List Int
 globals:List fm
def n8 (w:World) (B X:Nat) (e:Ar):Prop:=∃v v',eP w X #[v,v'] 147/\ea 3 1 fp w B v e.table/\ea 42 2 gw w B v' e.globals
def gX (m:eI):Ar:=⟨if m.table.has=true then List.replicate m.table.min.toNat (-1)else [],m.globals.map jg.init⟩
def Fi (m:eI) (w:World) (e:Ending) (w':World):Prop:=∃X,e= .returned (.pointer (some ⟨X,0,none⟩))/\n8 w' w.heap.size X (gX m)/\w.heap.size <=X/\Below w.heap.size w w'
theorem yk (m:eI) (u:eL) (w:World) (hm:eD w u m) (ht:m.table.has=true ->0 <=m.table.min/\m.table.min <=1000) (hg:m.globals.length <=1000):Calls prog 29 #[.agg (u.cells m)] w (Fi m w):=by
 have HI:=V hm;obtain⟨a0,c0,a1,c1,a2,c2,a3,c3,a4,c4,a5,c5,a6,c6,a7,c7,rfl⟩:=eD.open hm;clear hm;simp only [eL.cells];have LQ:=(an w.heap.size w).alloc (ag _) (.cells #[.slice a0 m.types.length c0, .slice a1 m.imports.length c1, .slice a2 m.funcs.length c2, .bool m.table.has, .int .i64 m.table.min, .int .i64 m.table.max, .bool m.mem.has, .int .i64 m.mem.min, .int .i64 m.mem.max, .slice a3 m.globals.length c3, .slice a4 m.ep.length c4, .slice a5 m.elems.length c5, .slice a6 m.eA.length c6, .slice a7 m.eK.length c7] 62);have HS:=V (LQ.alloc (by rw [aE];omega) (.cells #[.slice none 0 0, .slice none 0 0] 147));have HX:=V ((eP.new w #[.slice a0 m.types.length c0, .slice a1 m.imports.length c1, .slice a2 m.funcs.length c2, .bool m.table.has, .int .i64 m.table.min, .int .i64 m.table.max, .bool m.mem.has, .int .i64 m.mem.min, .int .i64 m.mem.max, .slice a3 m.globals.length c3, .slice a4 m.ep.length c4, .slice a5 m.elems.length c5, .slice a6 m.eA.length c6, .slice a7 m.eK.length c7] 62).alloc (.cells #[.slice none 0 0, .slice none 0 0] 147));have hy:=eP.new (w.alloc (.cells #[.slice a0 m.types.length c0, .slice a1 m.imports.length c1, .slice a2 m.funcs.length c2, .bool m.table.has, .int .i64 m.table.min, .int .i64 m.table.max, .bool m.mem.has, .int .i64 m.mem.min, .int .i64 m.mem.max, .slice a3 m.globals.length c3, .slice a4 m.ep.length c4, .slice a5 m.elems.length c5, .slice a6 m.eA.length c6, .slice a7 m.eK.length c7] 62)) #[.slice none 0 0, .slice none 0 0] 147;rw [aE]at hy;have HY:=V hy;clear LQ hy;obtain⟨has,hhas⟩:∃has,m.table.has=has:=⟨_,rfl⟩;rw [hhas]at HS HX HY ht⊢;cases has
 ·go_enter func29,ntmps29
  go_wp2_with fail;obtain⟨w5,P1⟩:∃w5,w5=(w.alloc (.cells #[.slice a0 m.types.length c0, .slice a1 m.imports.length c1, .slice a2 m.funcs.length c2, .bool false, .int .i64 m.table.min, .int .i64 m.table.max, .bool m.mem.has, .int .i64 m.mem.min, .int .i64 m.mem.max, .slice a3 m.globals.length c3, .slice a4 m.ep.length c4, .slice a5 m.elems.length c5, .slice a6 m.eA.length c6, .slice a7 m.eK.length c7] 62)).alloc (.cells #[.slice none 0 0, .slice none 0 0] 147):=⟨_,rfl⟩;rw [<- P1]at HS HX HY⊢;clear P1;have HP:=V (show n8 w5 w.heap.size (w.heap.size+1) ⟨[],[]⟩from⟨_,_,HY.out,ea.nil _ _,ea.nil _ _⟩);have HT:=V (show gX m=⟨[],m.globals.map jg.init⟩by unfold gX;rw [hhas];rfl);clear HX HY;refine eJ (fun a' w'=>∃(i:Nat),a'=fr (gs a' 0 3 (.pointer (some ⟨w.heap.size+1,0,none⟩)::gs a' 4 17 (.slice a3 m.globals.length c3:: .int .i64 m.globals.length:: .int .i64 i::gs a' 24 16 [])))/\i <=m.globals.length/\n8 w' w.heap.size (w.heap.size+1) ⟨[],(m.globals.take i).map jg.init⟩/\Below w.heap.size w w') (fun a' _=>(m.globals.length - (intOf (a'.tmps.getD 23 undef)).toNat)) ?_ ?_
  ·exact⟨0,rfl,bA _,HP.out,HS.out⟩
  ·skip
   rintro R a' w1 ⟨i,Lp,hJ⟩ HR;dsimp only [fr,gs]at Lp;generalize slot a'=f at Lp;subst Lp;obtain⟨hi,Rw,hb⟩:=hJ;have Rx:=V Rw;have HB:=V hb;clear Rw hb;by_cases q:i < m.globals.length;rotate_left
   ·obtain rfl:i=m.globals.length:=by omega
    go_wp2_with fail;go_ret;exact⟨_,rfl,by rw [HT.out];have:=Rx.out;rwa [aV]at this,by omega,HB.out⟩
   obtain⟨x,hx⟩:∃x,m.globals[i]?=some x:=⟨_,aw q⟩;have HXI:=V hx;obtain⟨_,_,hv,_,_,Ln⟩:=HI.out.2.2.2.1.ext (Ext.eh HB.out);injection hv with e1 e2 e3;subst e1;obtain⟨b,off,rfl,-,LN⟩:=Ln i x hx;have y0:=LN 0 _ rfl;have y1:=LN 1 _ rfl;have y2:=LN 2 _ rfl;rw [aK]at y0;obtain⟨gv,⟨gk,gn⟩⟩:=x;obtain⟨v,v',LK,OE,LL⟩:=Rx.out;have RX:((m.globals.take i).map jg.init).length=i:=by rw [bM,aS];omega
   obtain⟨av,cv,Mx,-,-⟩:=LL.slice;rw [RX]at Mx;subst Mx;have LC:=(an w1.heap.size w1).alloc (ag _) (.cells #[.bool gv, .int .i64 gk, .int .i64 gn] 120);have HG:=V (eP.new w1 #[.bool gv, .int .i64 gk, .int .i64 gn] 120).drew;have ML:=V (LK.below LC LK.lt).drew;have Nj:=V (show ea _ _ _ (w1.alloc (.cells #[.bool gv, .int .i64 gk, .int .i64 gn] 120)).drew _ _ _ from OE.below LC.drew);have Mq:=V (show ea _ _ _ (w1.alloc (.cells #[.bool gv, .int .i64 gk, .int .i64 gn] 120)).drew _ _ _ from LL.below LC.drew);have LS:=V (HB.out.trans (LC.mono HB.out.size)).drew;have s1:World.cell? _ ⟨w.heap.size+1,1,none⟩=some (.slice av i cv):=ML.out.cell 1;have s2:World.cell? _ ⟨w1.heap.size,1,none⟩=some (.int .i64 gk):=HG.out.cell 1;have s3:World.cell? _ ⟨w1.heap.size,2,none⟩=some (.int .i64 gn):=HG.out.cell 2;clear e2 e3 Ln LN hx LK OE LL LC;go_wp2_with fail;refine eX (fun w'=>w'.cell? ⟨w.heap.size+1,1,none⟩=some (.slice av i cv)/\w'.cell? ⟨w1.heap.size,1,none⟩=some (.int .i64 gk)/\w'.cell? ⟨w1.heap.size,2,none⟩=some (.int .i64 gn)) 11 (up 0 7 ((7,false)::(8,false)::(9,true)::(10,true)::[])) (by kernel_rfl) (by kernel_rfl) ⟨s1,s2,s3⟩ ?_;clear s1 s2 s3 y0 y1 y2;generalize(w1.alloc (.cells #[.bool gv, .int .i64 gk, .int .i64 gn] 120)).drew=w2 at HG ML Nj Mq LS⊢;iterate 7 (first | (apply sk rfl rfl;simp only [pt]) | (apply ef rfl rfl rfl;·(rintro w' ⟨t0,t1,t2⟩;go_wp2;exact⟨rfl,rfl,rfl⟩)))
   refine eo rfl rfl ?_;go_wp2_with fail;refine⟨⟨(ML.out.alloc _).cell 1,(HG.out.alloc _).cell 1,(HG.out.alloc _).cell 2⟩,?_⟩;refine eo rfl rfl ?_;go_wp2_with (first | (at_builtin;refine fb w2 rfl _ _ 30 rfl _ 16 (by kernel_rfl) lC rfl (by decide) (by decide) w.heap.size (.slice av i cv) ((m.globals.take i).map jg.init) rfl Mq.out (⟨gk,gn⟩:fm) _ rfl rfl (mi _) rfl (by rw [RX];omega) LS.out.size ?_));intro v2 w3 MB L5 M0;obtain⟨a3',c3',Mx,-,-⟩:=MB.slice;replace Mx:v2= .slice a3' (i+1) c3':=by rw [Mx];congr 1;simp;omega
   subst Mx;have hnb:=ea.gK Mq.out ML.out (by decide);have hng:=ea.gK Mq.out HG.out (by decide);replace ML:=V (ML.out.keeps L5 (fun h=>hnb _ h rfl));replace HG:=V (HG.out.keeps L5 (fun h=>hng _ h rfl));replace Nj:=V (Nj.out.keeps L5 (fun i hi=>ea.ne Nj.out Mq.out (by decide) i hi));replace LS:=V (LS.out.trans (L5.below LS.out.size (fun i hi=>(eE Mq.out hi).1)));replace Mq:=V MB;clear hnb hng L5 M0 MB;go_wp2_with fail;refine⟨⟨ML.out.cell 1,HG.out.cell 1,HG.out.cell 2⟩,?_⟩;iterate 2 (first | (apply sk rfl rfl;simp only [pt]) | (apply ef rfl rfl rfl;·(rintro w' ⟨t0,t1,t2⟩;go_wp2;exact⟨rfl,rfl,rfl⟩)))
   refine fP rfl rfl ?_;have c1:w3.cell? ⟨w.heap.size+1,1,none⟩=some (.slice av i cv):=ML.out.cell 1;have z1:=ML.out.free 1;go_wp2_with fail;refine⟨trivial,?_⟩;refine aD ?_;clear c1 z1;go_wp2_with fail;have Lt:=eC w3 (w.heap.size+1) 1 (.slice a3' (i+1) c3');refine HR.out _ _ ⟨i+1,rfl,by omega,⟨_,_,ML.out.set 1 _,Nj.out.keeps Lt (ea.gK Nj.out ML.out (by decide)),?_⟩,LS.out.trans (Lt.below LS.out.size (fun i hi=>by omega))⟩ ?_
   ·rw [aR,HXI.out,bY,List.map_take]
    exact Mq.out.keeps Lt (ea.gK Mq.out ML.out (by decide))
   ·simp [intOf]
    omega
 ·obtain⟨n,hn⟩:∃n:Nat,m.table.min=n:=⟨m.table.min.toNat,by have:=(ht rfl).1;omega⟩
  have hn2:n <=1000:=by have:=(ht rfl).2;omega
  rw [hn]at HS HX HY⊢;rcases aY n with hz | Pd
  ·subst hz
   have e0:((0:Nat):Int)=0:=rfl;rw [e0]at HS HX HY⊢;go_enter func29,ntmps29;go_wp2_with fail;obtain⟨wA,P1⟩:∃wA,wA=(w.alloc (.cells #[.slice a0 m.types.length c0, .slice a1 m.imports.length c1, .slice a2 m.funcs.length c2, .bool true, .int .i64 0, .int .i64 m.table.max, .bool m.mem.has, .int .i64 m.mem.min, .int .i64 m.mem.max, .slice a3 m.globals.length c3, .slice a4 m.ep.length c4, .slice a5 m.elems.length c5, .slice a6 m.eA.length c6, .slice a7 m.eK.length c7] 62)).alloc (.cells #[.slice none 0 0, .slice none 0 0] 147):=⟨_,rfl⟩;rw [<- P1]at HS HX HY⊢;have hAS:wA.heap.size=w.heap.size+2:=by rw [P1];simp
   clear P1;have Mf:=(an wA.heap.size wA).alloc (ag _) (.cells #[.int .i64 (-1)] 3);have MB:ea 3 1 fp (wA.alloc (.cells #[.int .i64 (-1)] 3)) wA.heap.size (.slice (some ⟨wA.heap.size,0,none⟩) 1 1) [-1]:=⟨by simp [fp], .inr ⟨wA.heap.size,1,_,rfl,ag _,eP.new wA _ _,by simp,by simp [maxLen],by simp,by simp [fp]⟩⟩;have hi3:=MB.fR fH;rw [hAS]at hi3;refine(qA _ 1 (-1) 0 (by omega) _ hi3).mono ?_;rintro e w4 ⟨g,rfl,ho,hb⟩;have Nl:=Mf.trans (hb.mono Mf.size);have HY4:=V (HY.out.below Nl HY.out.lt);replace HX:=V (HX.out.below Nl HX.out.lt);replace HS:=V (HS.out.trans (Nl.mono HS.out.size));have Sf:wA.heap.size <=(wA.alloc (.cells #[.int .i64 (-1)] 3)).heap.size:=Mf.size;have HO:=V (ho.lower (show w.heap.size <=_ by omega));clear hb Mf Nl ho MB hi3 Sf;have y0:=HY4.out.two.1;have z0:=HY4.out.two.2.2.1;obtain⟨g0,g1,g2,g3,g4,g5,g6,g7,g8,g9,Mb,Mc,Md,Me⟩:=HX.out.mod;go_wp2_with fail;clear g0 g1 g2 g3 g4 g5 g6 g7 g8 g9 Mb Mc Md Me y0 z0;have Lt:=eC w4 (w.heap.size+1) 0 (.slice (some ⟨g,0,none⟩) 0 0);replace HS:=V (HS.out.trans (Lt.below HS.out.size (fun i hi=>by omega)));have HP:=V (show n8 _ w.heap.size (w.heap.size+1) ⟨List.replicate 0 (-1),[]⟩from⟨_,_,HY4.out.set 0 (.slice (some ⟨g,0,none⟩) 0 0),HO.out.keeps Lt (ea.gK HO.out HY4.out (by decide)),ea.nil _ _⟩);have HT:=V (show gX m=⟨List.replicate 0 (-1),m.globals.map jg.init⟩by unfold gX;rw [hhas,hn];rfl);clear Lt HO HY4 HX;generalize w4.setCell ⟨w.heap.size+1,0,none⟩ (.slice (some ⟨g,0,none⟩) 0 0)=w5 at HS HP⊢;refine eJ (fun a' w'=>∃(i:Nat),a'=fr (gs a' 0 3 (.pointer (some ⟨w.heap.size+1,0,none⟩)::gs a' 4 17 (.slice a3 m.globals.length c3:: .int .i64 m.globals.length:: .int .i64 i::gs a' 24 16 [])))/\i <=m.globals.length/\n8 w' w.heap.size (w.heap.size+1) ⟨List.replicate 0 (-1),(m.globals.take i).map jg.init⟩/\Below w.heap.size w w') (fun a' _=>(m.globals.length - (intOf (a'.tmps.getD 23 undef)).toNat)) ?_ ?_
   ·exact⟨0,rfl,bA _,HP.out,HS.out⟩
   ·skip
    rintro R a' w1 ⟨i,Lp,hJ⟩ HR;dsimp only [fr,gs]at Lp;generalize slot a'=f at Lp;subst Lp;obtain⟨hi,Rw,hb⟩:=hJ;have Rx:=V Rw;have HB:=V hb;clear Rw hb;by_cases q:i < m.globals.length;rotate_left
    ·obtain rfl:i=m.globals.length:=by omega
     go_wp2_with fail;go_ret;exact⟨_,rfl,by rw [HT.out];have:=Rx.out;rwa [aV]at this,by omega,HB.out⟩
    obtain⟨x,hx⟩:∃x,m.globals[i]?=some x:=⟨_,aw q⟩;have HXI:=V hx;obtain⟨_,_,hv,_,_,Ln⟩:=HI.out.2.2.2.1.ext (Ext.eh HB.out);injection hv with e1 e2 e3;subst e1;obtain⟨b,off,rfl,-,LN⟩:=Ln i x hx;have y0:=LN 0 _ rfl;have y1:=LN 1 _ rfl;have y2:=LN 2 _ rfl;rw [aK]at y0;obtain⟨gv,⟨gk,gn⟩⟩:=x;obtain⟨v,v',LK,OE,LL⟩:=Rx.out;have RX:((m.globals.take i).map jg.init).length=i:=by rw [bM,aS];omega
    obtain⟨av,cv,Mx,-,-⟩:=LL.slice;rw [RX]at Mx;subst Mx;have LC:=(an w1.heap.size w1).alloc (ag _) (.cells #[.bool gv, .int .i64 gk, .int .i64 gn] 120);have HG:=V (eP.new w1 #[.bool gv, .int .i64 gk, .int .i64 gn] 120).drew;have ML:=V (LK.below LC LK.lt).drew;have Nj:=V (show ea _ _ _ (w1.alloc (.cells #[.bool gv, .int .i64 gk, .int .i64 gn] 120)).drew _ _ _ from OE.below LC.drew);have Mq:=V (show ea _ _ _ (w1.alloc (.cells #[.bool gv, .int .i64 gk, .int .i64 gn] 120)).drew _ _ _ from LL.below LC.drew);have LS:=V (HB.out.trans (LC.mono HB.out.size)).drew;have s1:World.cell? _ ⟨w.heap.size+1,1,none⟩=some (.slice av i cv):=ML.out.cell 1;have s2:World.cell? _ ⟨w1.heap.size,1,none⟩=some (.int .i64 gk):=HG.out.cell 1;have s3:World.cell? _ ⟨w1.heap.size,2,none⟩=some (.int .i64 gn):=HG.out.cell 2;clear e2 e3 Ln LN hx LK OE LL LC;go_wp2_with fail;refine eX (fun w'=>w'.cell? ⟨w.heap.size+1,1,none⟩=some (.slice av i cv)/\w'.cell? ⟨w1.heap.size,1,none⟩=some (.int .i64 gk)/\w'.cell? ⟨w1.heap.size,2,none⟩=some (.int .i64 gn)) 11 (up 0 7 ((7,false)::(8,false)::(9,true)::(10,true)::[])) (by kernel_rfl) (by kernel_rfl) ⟨s1,s2,s3⟩ ?_;clear s1 s2 s3 y0 y1 y2;generalize(w1.alloc (.cells #[.bool gv, .int .i64 gk, .int .i64 gn] 120)).drew=w2 at HG ML Nj Mq LS⊢;iterate 7 (first | (apply sk rfl rfl;simp only [pt]) | (apply ef rfl rfl rfl;·(rintro w' ⟨t0,t1,t2⟩;go_wp2;exact⟨rfl,rfl,rfl⟩)))
    refine eo rfl rfl ?_;go_wp2_with fail;refine⟨⟨(ML.out.alloc _).cell 1,(HG.out.alloc _).cell 1,(HG.out.alloc _).cell 2⟩,?_⟩;refine eo rfl rfl ?_;go_wp2_with (first | (at_builtin;refine fb w2 rfl _ _ 30 rfl _ 16 (by kernel_rfl) lC rfl (by decide) (by decide) w.heap.size (.slice av i cv) ((m.globals.take i).map jg.init) rfl Mq.out (⟨gk,gn⟩:fm) _ rfl rfl (mi _) rfl (by rw [RX];omega) LS.out.size ?_));intro v2 w3 MB L5 M0;obtain⟨a3',c3',Mx,-,-⟩:=MB.slice;replace Mx:v2= .slice a3' (i+1) c3':=by rw [Mx];congr 1;simp;omega
    subst Mx;have hnb:=ea.gK Mq.out ML.out (by decide);have hng:=ea.gK Mq.out HG.out (by decide);replace ML:=V (ML.out.keeps L5 (fun h=>hnb _ h rfl));replace HG:=V (HG.out.keeps L5 (fun h=>hng _ h rfl));replace Nj:=V (Nj.out.keeps L5 (fun i hi=>ea.ne Nj.out Mq.out (by decide) i hi));replace LS:=V (LS.out.trans (L5.below LS.out.size (fun i hi=>(eE Mq.out hi).1)));replace Mq:=V MB;clear hnb hng L5 M0 MB;go_wp2_with fail;refine⟨⟨ML.out.cell 1,HG.out.cell 1,HG.out.cell 2⟩,?_⟩;iterate 2 (first | (apply sk rfl rfl;simp only [pt]) | (apply ef rfl rfl rfl;·(rintro w' ⟨t0,t1,t2⟩;go_wp2;exact⟨rfl,rfl,rfl⟩)))
    refine fP rfl rfl ?_;have c1:w3.cell? ⟨w.heap.size+1,1,none⟩=some (.slice av i cv):=ML.out.cell 1;have z1:=ML.out.free 1;go_wp2_with fail;refine⟨trivial,?_⟩;refine aD ?_;clear c1 z1;go_wp2_with fail;have Lt:=eC w3 (w.heap.size+1) 1 (.slice a3' (i+1) c3');refine HR.out _ _ ⟨i+1,rfl,by omega,⟨_,_,ML.out.set 1 _,Nj.out.keeps Lt (ea.gK Nj.out ML.out (by decide)),?_⟩,LS.out.trans (Lt.below LS.out.size (fun i hi=>by omega))⟩ ?_
    ·rw [aR,HXI.out,bY,List.map_take]
     exact Mq.out.keeps Lt (ea.gK Mq.out ML.out (by decide))
    ·simp [intOf]
     omega
  ·skip
   go_enter func29,ntmps29;go_wp2_with fail;obtain⟨wA,P1⟩:∃wA,wA=(w.alloc (.cells #[.slice a0 m.types.length c0, .slice a1 m.imports.length c1, .slice a2 m.funcs.length c2, .bool true, .int .i64 n, .int .i64 m.table.max, .bool m.mem.has, .int .i64 m.mem.min, .int .i64 m.mem.max, .slice a3 m.globals.length c3, .slice a4 m.ep.length c4, .slice a5 m.elems.length c5, .slice a6 m.eA.length c6, .slice a7 m.eK.length c7] 62)).alloc (.cells #[.slice none 0 0, .slice none 0 0] 147):=⟨_,rfl⟩;rw [<- P1]at HS HX HY⊢;have hAS:wA.heap.size=w.heap.size+2:=by rw [P1];simp
   clear P1;have Mf:=(an wA.heap.size wA).alloc (ag _) (.cells #[.int .i64 (-1)] 3);have MB:ea 3 1 fp (wA.alloc (.cells #[.int .i64 (-1)] 3)) wA.heap.size (.slice (some ⟨wA.heap.size,0,none⟩) 1 1) [-1]:=⟨by simp [fp], .inr ⟨wA.heap.size,1,_,rfl,ag _,eP.new wA _ _,by simp,by simp [maxLen],by simp,by simp [fp]⟩⟩;have hi3:=MB.fR fH;rw [hAS]at hi3;refine(qA _ 1 (-1) n (by omega) _ hi3).mono ?_;rintro e w4 ⟨g,rfl,ho,hb⟩;have Nl:=Mf.trans (hb.mono Mf.size);have HY4:=V (HY.out.below Nl HY.out.lt);replace HX:=V (HX.out.below Nl HX.out.lt);replace HS:=V (HS.out.trans (Nl.mono HS.out.size));have Sf:wA.heap.size <=(wA.alloc (.cells #[.int .i64 (-1)] 3)).heap.size:=Mf.size;have HO:=V (ho.lower (show w.heap.size <=_ by omega));clear hb Mf Nl ho MB hi3 Sf;have y0:=HY4.out.two.1;have z0:=HY4.out.two.2.2.1;obtain⟨g0,g1,g2,g3,g4,g5,g6,g7,g8,g9,Mb,Mc,Md,Me⟩:=HX.out.mod;go_wp2_with fail;clear g0 g1 g2 g3 g4 g5 g6 g7 g8 g9 Mb Mc Md Me y0 z0;have Lt:=eC w4 (w.heap.size+1) 0 (.slice (some ⟨g,0,none⟩) n n);replace HS:=V (HS.out.trans (Lt.below HS.out.size (fun i hi=>by omega)));have HP:=V (show n8 _ w.heap.size (w.heap.size+1) ⟨List.replicate n (-1),[]⟩from⟨_,_,HY4.out.set 0 (.slice (some ⟨g,0,none⟩) n n),HO.out.keeps Lt (ea.gK HO.out HY4.out (by decide)),ea.nil _ _⟩);have HT:=V (show gX m=⟨List.replicate n (-1),m.globals.map jg.init⟩by unfold gX;rw [hhas,hn];rfl);clear Lt HO HY4 HX;generalize w4.setCell ⟨w.heap.size+1,0,none⟩ (.slice (some ⟨g,0,none⟩) n n)=w5 at HS HP⊢;refine eJ (fun a' w'=>∃(i:Nat),a'=fr (gs a' 0 3 (.pointer (some ⟨w.heap.size+1,0,none⟩)::gs a' 4 17 (.slice a3 m.globals.length c3:: .int .i64 m.globals.length:: .int .i64 i::gs a' 24 16 [])))/\i <=m.globals.length/\n8 w' w.heap.size (w.heap.size+1) ⟨List.replicate n (-1),(m.globals.take i).map jg.init⟩/\Below w.heap.size w w') (fun a' _=>(m.globals.length - (intOf (a'.tmps.getD 23 undef)).toNat)) ?_ ?_
   ·exact⟨0,rfl,bA _,HP.out,HS.out⟩
   ·skip
    rintro R a' w1 ⟨i,Lp,hJ⟩ HR;dsimp only [fr,gs]at Lp;generalize slot a'=f at Lp;subst Lp;obtain⟨hi,Rw,hb⟩:=hJ;have Rx:=V Rw;have HB:=V hb;clear Rw hb;by_cases q:i < m.globals.length;rotate_left
    ·obtain rfl:i=m.globals.length:=by omega
     go_wp2_with fail;go_ret;exact⟨_,rfl,by rw [HT.out];have:=Rx.out;rwa [aV]at this,by omega,HB.out⟩
    obtain⟨x,hx⟩:∃x,m.globals[i]?=some x:=⟨_,aw q⟩;have HXI:=V hx;obtain⟨_,_,hv,_,_,Ln⟩:=HI.out.2.2.2.1.ext (Ext.eh HB.out);injection hv with e1 e2 e3;subst e1;obtain⟨b,off,rfl,-,LN⟩:=Ln i x hx;have y0:=LN 0 _ rfl;have y1:=LN 1 _ rfl;have y2:=LN 2 _ rfl;rw [aK]at y0;obtain⟨gv,⟨gk,gn⟩⟩:=x;obtain⟨v,v',LK,OE,LL⟩:=Rx.out;have RX:((m.globals.take i).map jg.init).length=i:=by rw [bM,aS];omega
    obtain⟨av,cv,Mx,-,-⟩:=LL.slice;rw [RX]at Mx;subst Mx;have LC:=(an w1.heap.size w1).alloc (ag _) (.cells #[.bool gv, .int .i64 gk, .int .i64 gn] 120);have HG:=V (eP.new w1 #[.bool gv, .int .i64 gk, .int .i64 gn] 120).drew;have ML:=V (LK.below LC LK.lt).drew;have Nj:=V (show ea _ _ _ (w1.alloc (.cells #[.bool gv, .int .i64 gk, .int .i64 gn] 120)).drew _ _ _ from OE.below LC.drew);have Mq:=V (show ea _ _ _ (w1.alloc (.cells #[.bool gv, .int .i64 gk, .int .i64 gn] 120)).drew _ _ _ from LL.below LC.drew);have LS:=V (HB.out.trans (LC.mono HB.out.size)).drew;have s1:World.cell? _ ⟨w.heap.size+1,1,none⟩=some (.slice av i cv):=ML.out.cell 1;have s2:World.cell? _ ⟨w1.heap.size,1,none⟩=some (.int .i64 gk):=HG.out.cell 1;have s3:World.cell? _ ⟨w1.heap.size,2,none⟩=some (.int .i64 gn):=HG.out.cell 2;clear e2 e3 Ln LN hx LK OE LL LC;go_wp2_with fail;refine eX (fun w'=>w'.cell? ⟨w.heap.size+1,1,none⟩=some (.slice av i cv)/\w'.cell? ⟨w1.heap.size,1,none⟩=some (.int .i64 gk)/\w'.cell? ⟨w1.heap.size,2,none⟩=some (.int .i64 gn)) 11 (up 0 7 ((7,false)::(8,false)::(9,true)::(10,true)::[])) (by kernel_rfl) (by kernel_rfl) ⟨s1,s2,s3⟩ ?_;clear s1 s2 s3 y0 y1 y2;generalize(w1.alloc (.cells #[.bool gv, .int .i64 gk, .int .i64 gn] 120)).drew=w2 at HG ML Nj Mq LS⊢;iterate 7 (first | (apply sk rfl rfl;simp only [pt]) | (apply ef rfl rfl rfl;·(rintro w' ⟨t0,t1,t2⟩;go_wp2;exact⟨rfl,rfl,rfl⟩)))
    refine eo rfl rfl ?_;go_wp2_with fail;refine⟨⟨(ML.out.alloc _).cell 1,(HG.out.alloc _).cell 1,(HG.out.alloc _).cell 2⟩,?_⟩;refine eo rfl rfl ?_;go_wp2_with (first | (at_builtin;refine fb w2 rfl _ _ 30 rfl _ 16 (by kernel_rfl) lC rfl (by decide) (by decide) w.heap.size (.slice av i cv) ((m.globals.take i).map jg.init) rfl Mq.out (⟨gk,gn⟩:fm) _ rfl rfl (mi _) rfl (by rw [RX];omega) LS.out.size ?_));intro v2 w3 MB L5 M0;obtain⟨a3',c3',Mx,-,-⟩:=MB.slice;replace Mx:v2= .slice a3' (i+1) c3':=by rw [Mx];congr 1;simp;omega
    subst Mx;have hnb:=ea.gK Mq.out ML.out (by decide);have hng:=ea.gK Mq.out HG.out (by decide);replace ML:=V (ML.out.keeps L5 (fun h=>hnb _ h rfl));replace HG:=V (HG.out.keeps L5 (fun h=>hng _ h rfl));replace Nj:=V (Nj.out.keeps L5 (fun i hi=>ea.ne Nj.out Mq.out (by decide) i hi));replace LS:=V (LS.out.trans (L5.below LS.out.size (fun i hi=>(eE Mq.out hi).1)));replace Mq:=V MB;clear hnb hng L5 M0 MB;go_wp2_with fail;refine⟨⟨ML.out.cell 1,HG.out.cell 1,HG.out.cell 2⟩,?_⟩;iterate 2 (first | (apply sk rfl rfl;simp only [pt]) | (apply ef rfl rfl rfl;·(rintro w' ⟨t0,t1,t2⟩;go_wp2;exact⟨rfl,rfl,rfl⟩)))
    refine fP rfl rfl ?_;have c1:w3.cell? ⟨w.heap.size+1,1,none⟩=some (.slice av i cv):=ML.out.cell 1;have z1:=ML.out.free 1;go_wp2_with fail;refine⟨trivial,?_⟩;refine aD ?_;clear c1 z1;go_wp2_with fail;have Lt:=eC w3 (w.heap.size+1) 1 (.slice a3' (i+1) c3');refine HR.out _ _ ⟨i+1,rfl,by omega,⟨_,_,ML.out.set 1 _,Nj.out.keeps Lt (ea.gK Nj.out ML.out (by decide)),?_⟩,LS.out.trans (Lt.below LS.out.size (fun i hi=>by omega))⟩ ?_
    ·rw [aR,HXI.out,bY,List.map_take]
     exact Mq.out.keeps Lt (ea.gK Mq.out ML.out (by decide))
    ·simp [intOf]
     omega
theorem o9 (a:Option Addr) (len cap:Nat) (h2:len <=cap) (ha:a=none ->cap=0):
  ∃dp,∀wx,(Instr.slice 25 (.slice a len cap) (some (.int .i64 len)) none none).run prog wx= .ok (.slice dp 0 (cap - len)) wx:=by
 have hu:prog.underlying 25=some (.slice 3):=by kernel_rfl
 obtain⟨i0,hi,NW,MP,Nu⟩:=bX jT;cases a with
 | none=>
  have:=ha rfl;subst this;obtain rfl:len=0:=by omega
  exact⟨none,fun wx=>by simp [Instr.slice,bx hu,Instr.sliceBounds,Instr.sliceBound,sizeOf,typeInfo,hi,asIntOf,Addr.add]⟩
 | some a=>
  by_cases q:cap=len
  ·exact⟨some a,fun wx=>by simp [Instr.slice,bx hu,Instr.sliceBounds,Instr.sliceBound,sizeOf,typeInfo,hi,asIntOf,Addr.add,q]⟩
  ·exact⟨some (a.add len),fun wx=>by simp [Instr.slice,bx hu,Instr.sliceBounds,Instr.sliceBound,sizeOf,typeInfo,hi,MP,asIntOf,Addr.add,q]⟩
theorem Jc (l:List Int):l.flatMap fp=l.map (Value.int .i64):=by
 induction l with
 | nil=>rfl
 | cons x l ih=>rw [bS,ih];rfl
theorem yR {α:Type} (cur T fs:List α) (k len:Nat) (ht:cur.take len=T) (hl:k+fs.length <=len) (hT:T.length=len):(cur.take k++(fs++cur.drop (k+fs.length))).take len=T.take k++fs++T.drop (k+fs.length):=by
 have hc:len <=cur.length:=by rw [<- ht,aS]at hT;omega
 have h1:T.take k=cur.take k:=by rw [<- ht,List.take_take,cD (by omega)]
 have h2:T.drop (k+fs.length)=(cur.drop (k+fs.length)).take (len - (k+fs.length)):=by rw [<- ht,List.drop_take]
 rw [h1,h2,List.take_append,List.take_append,aP,aS,cD (by omega),cW (by rw [aS];omega),cW (l:=fs) (by omega),show len - k - fs.length=len - (k+fs.length)by omega]
theorem Ap (w:World) (g:Nat) (cs:Array Value):ee (fun i=>i=g) w (w.setRow g cs):=⟨rfl,rfl,rfl,by simp [World.setRow],fun k _ hk=>setRow_other w g k cs hk⟩
def iT (e:Ar) (off:Int) (fs:List Int):Option Ar:=
 if off < 0\/(e.table.length:Int) - fs.length < off then none else some {e with table:=e.table.take off.toNat++fs++e.table.drop (off.toNat+fs.length)}
def GM (w:World) (B:Nat) (i:Nat):Prop:=B <=i/\∃xs,eP w i xs 3
def Ic (B X:Nat) (e:Ar) (off:Int) (fs:List Int) (w:World) (en:Ending) (w':World):Prop:=
 en= .returned (.bool (iT e off fs).isSome)/\n8 w' B X ((iT e off fs).getD e)/\ee (GM w B) w w'
theorem xV (w:World) (B X:Nat) (e:Ar) (fv:Value) (off:Int) (fs:List Int) (h:n8 w B X e) (hf:ew 1 fp w fv fs):Calls prog 30 #[.pointer (some ⟨X,0,none⟩), .int .i64 off,fv] w (Ic B X e off fs w):=by
 have Rx:=V h;obtain⟨v,v',hx,OE,LL⟩:=h;obtain⟨av,cv,rfl,MR,NC⟩:=OE.slice;obtain⟨af,cf,rfl,Qk,hcfm⟩:=fg hf;have x0:w.cell? ⟨X,0,none⟩=some (.slice av e.table.length cv):=hx.cell 0;have HFS:=V hf;have HX:=V hx;have Nj:=V OE;have Mq:=V LL;clear hf hx OE LL;by_cases q1:off < 0
 ·have f1:decide (off < 0)=true:=aA q1
  have HE:=V (show iT e off fs=none by unfold iT;rw [if_pos (.inl q1)]);go_enter func30,ntmps30;go_wp2_with fail;go_ret;exact⟨by rw [HE.out];rfl,by rw [HE.out];exact Rx.out,ee.refl _ _⟩
 have f1:decide (off < 0)=false:=aq q1;by_cases q2:(e.table.length:Int) - fs.length < off
 ·have f2:decide ((e.table.length:Int) - (fs.length:Int) < off)=true:=aA q2
  have HE:=V (show iT e off fs=none by unfold iT;rw [if_pos (.inr q2)]);go_enter func30,ntmps30;go_wp2_with fail;go_ret;exact⟨by rw [HE.out];rfl,by rw [HE.out];exact Rx.out,ee.refl _ _⟩
 have f2:decide ((e.table.length:Int) - (fs.length:Int) < off)=false:=aq q2;obtain⟨k,rfl⟩:∃k:Nat,off=k:=⟨off.toNat,by omega⟩;have Mm:k+fs.length <=e.table.length:=by omega
 have HE:=V (show iT e k fs=some {e with table:=e.table.take k++fs++e.table.drop (k+fs.length)}by unfold iT;rw [if_neg (by omega),Int.toNat_natCast]);have Ox:cv <=9223372036854775807:=NC;clear q1 q2;by_cases q:fs.length=0
 ·have hE:iT e k fs=some e:=by
   rw [HE.out,aH q,bO,aL,aK,cn]
  obtain⟨dp,MU⟩:∃dp,∀wx,(Instr.slice 25 (.slice av e.table.length cv) (some (.int .i64 k)) none none).run prog wx= .ok (.slice dp (e.table.length - k) (cv - k)) wx:=by
   by_cases ql:k < e.table.length
   ·obtain⟨g,cap,cur,hv,-⟩:=Nj.out.open (by intro h;rw [h]at ql;simp at ql)
    injection hv with e1 e2 e3;subst e1;exact⟨_,fun wx=>kE g _ cv k ql MR wx⟩
   ·obtain rfl:k=e.table.length:=by omega
    have ha:av=none ->cv=0:=by
     intro h;obtain⟨_,hv | ⟨g,cap,cur,hv,-⟩⟩:=Nj.out
     ·have:=hv.1
      injection this
     ·rw [h]at hv
      injection hv with e1;cases e1
    obtain⟨dp,h⟩:=o9 av e.table.length cv MR ha;exact⟨dp,fun wx=>by rw [h wx,dk]⟩
  have HE2:=V hE;clear hE HE;go_enter func30,ntmps30;go_wp2_with (first | (refine wpList_copy_nothing rfl (.tmp 30) (.tmp 31) 25 25 rfl 3 (by kernel_rfl) (by kernel_rfl) dp af (e.table.length - k) (cv - k) fs.length cf rfl rfl (by rw [q];exact Nat.zero_min _) ?_));go_ret;exact⟨by rw [HE2.out];rfl,by rw [HE2.out];exact Rx.out,ee.refl _ _⟩
 have Nm:e.table≠[]:=by
  intro h;rw [h,aL]at Mm;omega
 obtain⟨hlen,hv | ⟨g,cap,cur,hv,hBg,hg,hn,hm,Mr,ht⟩⟩:=id Nj.out
 ·exact absurd (aH hv.2) Nm
 injection hv with e1 e2 e3;subst e1 e3;rw [bq]at Mr ht;rw [Jc]at ht;obtain⟨_,_,hvf,_,_,Ln⟩:=HFS.out;injection hvf with e1 e3 e4;subst e1;have hf0:0 < fs.length:=by omega
 obtain⟨bf,off,rfl,hltf,-⟩:=Ln 0 _ (aw hf0);have hsrc:∀j v,(fs.map (Value.int .i64))[j]?=some v ->w.cell? (Addr.add ⟨bf,off,none⟩ j)=some v:=by
  intro j v hj;rw [cT]at hj;cases hx:fs[j]? with
  | none=>rw [hx]at hj;cases hj
  | some y=>
   rw [hx]at hj;injection hj with hj;subst hj;obtain⟨b',off',Qy,-,hc⟩:=Ln j y hx;injection Qy with Qy;injection Qy with h1 h2;subst h1 h2;have:=hc 0 _ rfl;rw [aK,bq]at this;by_cases hj0:j=0
   ·subst hj0
    simpa [Addr.add] using this
   ·simpa [Addr.add,hj0] using this
 have MU:=fun wx=>kE g e.table.length cv k (by omega) MR wx;have HTT:=V (yR cur.toList (e.table.map (Value.int .i64)) (fs.map (Value.int .i64)) k e.table.length ht (by rw [bM];exact Mm) (by rw [bM]));have hcur:k+fs.length <=cur.size:=by omega
 have HSZ:=V Mr;clear e2 Ln ht Mr hlen;go_enter func30,ntmps30;go_wp2_with (first | (refine wpList_copy_own rfl (.tmp 30) (.tmp 31) 25 25 rfl 3 (by kernel_rfl) (by kernel_rfl) g k (e.table.length - k) (cv - k) ⟨bf,off,none⟩ fs.length cf rfl rfl cur 3 hg (fs.map (Value.int .i64)) (by rw [bM];exact(cD (by omega)).symm) hsrc (by rw [bM];exact hcur) (fun v hv=>by obtain⟨_,_,rfl⟩:=List.mem_map.1 hv;rfl) ?_));go_wp2_with fail;go_ret;have Lt:=Ap w g (cur.toList.take k++(fs.map (Value.int .i64)++cur.toList.drop (k+fs.length))).toArray;have MN:=setRow_heap w g cur (cur.toList.take k++(fs.map (Value.int .i64)++cur.toList.drop (k+fs.length))).toArray 3 _ hg;refine⟨by rw [HE.out];rfl,?_,?_⟩
 ·rw [HE.out]
  show n8 _ B X ⟨e.table.take k++fs++e.table.drop (k+fs.length),e.globals⟩;refine⟨_,_,HX.out.keeps Lt ?_,?_,Mq.out.keeps Lt ?_⟩
  ·intro h
   exact ea.gK Nj.out HX.out (by decide) g (by simp [eH,Value.ownBlock]) h.symm
  ·have hl:(e.table.take k++fs++e.table.drop (k+fs.length)).length=e.table.length:=by
    simp only [ah,aS,bu];omega
   have h2:=HTT.out;rw [bM]at h2;show ea _ _ _ _ _ _ (e.table.take k++fs++e.table.drop (k+fs.length));refine⟨by rw [kf fH], .inr ⟨g,cv,_,by rw [hl],hBg,MN,by rw [hl];exact hn,hm,?_,?_⟩⟩
   ·simp only [dG,ah,aS,bu,bM,Array.length_toList]
    have:=HSZ.out;omega
   ·rw [hl,bq,Jc]
    simp only [bY,List.map_take,List.map_drop];exact h2
  ·intro i hi h
   subst h;have:=ea.ne Mq.out Nj.out (by decide) i hi;exact this (by simp [eH,Value.ownBlock])
 ·exact Lt.mono (fun i hi=>by subst hi;exact⟨hBg,_,hg⟩)
structure jv where
 kind:Int
 qx:Int
 fn:Int
 ej:List fm
deriving DecidableEq
def jv.more:jv:=⟨1,0,0,[]⟩
def jv.full:jv:=⟨5,0,0,[]⟩
def jv.Cu (n:Int):jv:=⟨4,n,0,[]⟩
def jf (c:gS):List iR:=(fI c.body).getD []
def lN (l:List iR) (n:Int):iR:=(l.reverse.find? fun b=>b.pos==n).getD ⟨0,0,0⟩
def nw (m:eI) (f:Int):Bool:=decide (0 <=f)&&decide (f < m.imports.length)
section
def nI (w:World) (f:fc) (u:Value × Value):Prop:=ea 42 2 gw w 0 u.1 f.locals/\ea 46 2 kq w 0 u.2 f.labels
def gY (w:World):List fc ->List (Value × Value) ->Prop
 | [],[]=>True
 | f::l,u::us=>nI w f u/\gY w l us
 | [],_::_=>False
 | _::_,[]=>False
theorem gY.len {w:World}:∀{l:List fc} {us:List (Value × Value)},gY w l us ->us.length=l.length
 | [],[],_=>rfl
 | _::l,_::us,h=>by rw [aF,aF,gY.len (l:=l) (us:=us) h.2]
 | [],_::_,h=>h.elim
 | _::_,[],h=>h.elim
theorem gY.snoc {w:World} {f:fc} {u:Value × Value}:∀{l:List fc} {us:List (Value × Value)},gY w l us ->nI w f u ->gY w (l++[f]) (us++[u])
 | [],[],_,h=>⟨h,trivial⟩
 | _::l,_::us,h,k=>⟨h.1,gY.snoc (l:=l) (us:=us) h.2 k⟩
 | [],_::_,h,_=>h.elim
 | _::_,[],h,_=>h.elim
theorem gY.open {w:World} {f:fc}:∀{l:List fc} {us:List (Value × Value)},gY w (l++[f]) us ->∃P0 u,us=P0++[u]/\gY w l P0/\nI w f u
 | [],[],h=>h.elim
 | [],[u],h=>⟨[],u,rfl,trivial,h.1⟩
 | [],_::_::_,h=>h.2.elim
 | _::_,[],h=>h.elim
 | x::l,v::us,h=>by
  obtain⟨P0,u,rfl,h1,h2⟩:=gY.open (l:=l) (us:=us) h.2;exact⟨v::P0,u,rfl,⟨h.1,h1⟩,h2⟩
theorem gY.to {w w':World}:∀{l:List fc} {us:List (Value × Value)},gY w l us ->(∀f u,u∈us ->nI w f u ->nI w' f u) ->gY w' l us
 | [],[],_,_=>trivial
 | f::l,u::us,h,k=>⟨k f u (by simp) h.1,gY.to (l:=l) (us:=us) h.2 (fun g v hv=>k g v (by simp [hv]))⟩
 | [],_::_,h,_=>h.elim
 | _::_,[],h,_=>h.elim
theorem gY.mem {w:World}:∀{l:List fc} {us:List (Value × Value)} {u:Value × Value},gY w l us ->u∈us ->∃f,nI w f u
 | [],[],_,_,hu=>by simp at hu
 | f::l,v::us,u,h,hu=>by
  rcases bB.1 hu with rfl | hu
  ·exact⟨f,h.1⟩
  ·exact gY.mem (l:=l) (us:=us) h.2 hu
 | [],_::_,_,h,_=>h.elim
 | _::_,[],_,h,_=>h.elim
structure qz where
 uv:Value
 uf:Value
 us:List (Value × Value)
def qz.own (v:qz) (b g:Nat):Prop:=g=b\/eH v.uv g\/eH v.uf g\/∃u∈v.us,eH u.1 g\/eH u.2 g
def ik (pre:List Value) (v:qz) (asks:Int) (post:List Value):Array Value:=(pre++v.uv::v.uf:: .int .i64 asks::post).toArray
def vB (us:List (Value × Value)):Prop:=us.Pairwise fun a b=>(∀g,eH a.1 g ->¬ eH b.1 g)/\(∀g,eH a.2 g ->¬ eH b.2 g)
structure fV (w:World) (b:Nat) (pre post:List Value) (t:TypeId) (v:qz) (s:gV):Prop where
 km:eP w b (ik pre v s.asks post) t
 ej:ea 42 2 gw w 0 v.uv s.ej
 ey:ea 40 5 mg w 0 v.uf (s.ey.zip v.us)
 rows:gY w s.ey v.us
 I8:∀u∈v.us,∀g,eH v.uv g ->¬ eH u.1 g
 apart:vB v.us
 ty:t≠42/\t≠40/\t≠46/\t≠74
section
variable {w w':World} {b:Nat} {pre post:List Value} {t:TypeId} {v:qz} {s:gV}
theorem ea.has {α:Type} {t:TypeId} {k:Nat} {enc:α ->List Value} {B:Nat} {v:Value} {l:List α} (h:ea t k enc w B v l) {g:Nat} (hg:eH v g):∃cur,eP w g cur t:=by
 obtain⟨_,⟨hv,_⟩ | ⟨g',cap,cur,hv,_,hb,_⟩⟩:=h
 ·rw [hv]at hg;simp [eH,Value.ownBlock]at hg
 ·rw [hv]at hg
  simp [eH,Value.ownBlock]at hg;subst hg;exact⟨cur,hb⟩
theorem eP.uniq {X:Nat} {xs ys:Array Value} {t t':TypeId} (h:eP w X xs t) (k:eP w X ys t'):t=t':=by
 have:=h.symm.trans k;injection this with this;injection this
theorem fV.kinds (h:fV w b pre post t v s) {g:Nat} (hg:v.own b g):(g=b)\/∃cur t',eP w g cur t'/\(t'=42\/t'=40\/t'=46):=by
 rcases hg with rfl | hg | hg | ⟨u,hu,hg⟩
 ·exact .inl rfl
 ·obtain⟨cur,hb⟩:=h.ej.has hg
  exact .inr ⟨cur,_,hb, .inl rfl⟩
 ·obtain⟨cur,hb⟩:=h.ey.has hg
  exact .inr ⟨cur,_,hb, .inr (.inl rfl)⟩
 ·obtain⟨f,hf⟩:=h.rows.mem hu
  rcases hg with hg | hg
  ·obtain⟨cur,hb⟩:=hf.1.has hg
   exact .inr ⟨cur,_,hb, .inl rfl⟩
  ·obtain⟨cur,hb⟩:=hf.2.has hg
   exact .inr ⟨cur,_,hb, .inr (.inr rfl)⟩
theorem fV.lt (h:fV w b pre post t v s) {g:Nat} (hg:v.own b g):g < w.heap.size:=by
 rcases h.kinds hg with rfl | ⟨cur,t',hb,_⟩
 ·exact h.km.lt
 ·exact hb.lt
theorem fV.not (h:fV w b pre post t v s) {X:Nat} {xs:Array Value} {t':TypeId} (hX:eP w X xs t') (hb:X≠b) (ht:t'≠42/\t'≠40/\t'≠46):¬ v.own b X:=by
 intro hg;rcases h.kinds hg with rfl | ⟨cur,t2,Lr,h2⟩
 ·exact hb rfl
 ·have:=Lr.uniq hX
  subst this;rcases h2 with h2 | h2 | h2
  ·exact ht.1 h2
  ·exact ht.2.1 h2
  ·exact ht.2.2 h2
theorem nI.keeps {P:Nat ->Prop} {f:fc} {u:Value × Value} (h:nI w f u) (hk:ee P w w') (hP:∀g,eH u.1 g\/eH u.2 g ->¬ P g):nI w' f u:=
 ⟨h.1.keeps hk (fun g hg=>hP g (.inl hg)),h.2.keeps hk (fun g hg=>hP g (.inr hg))⟩
theorem fV.keeps {P:Nat ->Prop} (h:fV w b pre post t v s) (hk:ee P w w') (hP:∀g,v.own b g ->¬ P g):fV w' b pre post t v s:=
 ⟨h.km.keeps hk (hP b (.inl rfl)),h.ej.keeps hk (fun g hg=>hP g (.inr (.inl hg))),h.ey.keeps hk (fun g hg=>hP g (.inr (.inr (.inl hg)))),
  h.rows.to (fun _ u hu hf=>hf.keeps hk (fun g hg=>hP g (.inr (.inr (.inr ⟨u,hu,hg⟩))))),h.I8,h.apart,h.ty⟩
theorem fV.below (h:fV w b pre post t v s) (hb:Below w.heap.size w w'):fV w' b pre post t v s:=h.keeps (P:=fun _=>False) (ee.eh hb) (fun _ _ h=>h)
theorem fV.drew (h:fV w b pre post t v s):fV w.drew b pre post t v s:=h.below (an _ _).drew
theorem fV.alloc (h:fV w b pre post t v s) (o:Obj):fV (w.alloc o) b pre post t v s:=h.below ((an _ _).alloc (ag _) o)
def kn (v v':qz) (b:Nat) (w w':World):Prop:=ee (v.own b) w w'/\∀g,v'.own b g ->v.own b g\/w.heap.size <=g
theorem kn.refl (v:qz) (b:Nat) (w:World):kn v v b w w:=⟨ee.refl _ _,fun _ h=> .inl h⟩
theorem kn.trans {v v' v2:qz} {w2:World} (h:kn v v' b w w') (k:kn v' v2 b w' w2):kn v v2 b w w2:=
 ⟨h.1.trans k.1 (fun g hg=>h.2 g hg),fun g hg=>(k.2 g hg).elim (h.2 g) (fun hg=> .inr (aW h.1.size hg))⟩
theorem kn.below {v v':qz} {w2:World} (h:kn v v' b w w') (k:Below w'.heap.size w' w2):kn v v' b w w2:=
 ⟨h.1.trans (ee.eh (S:=fun _=>False) k) (fun _ h=>h.elim),h.2⟩
theorem kn.eh {v:qz} (k:Below w.heap.size w w'):kn v v b w w':=(kn.refl v b w).below k
theorem kn.drew {v v':qz} (h:kn v v' b w w'):kn v v' b w w'.drew:=h.below (an _ _).drew
theorem rE (pre:List Value) (v:qz) (n:Int) (post:List Value):(ik pre v n post)[pre.length]?=some v.uv:=by simp [ik]
theorem yP (pre:List Value) (v:qz) (n:Int) (post:List Value):(ik pre v n post)[pre.length+1]?=some v.uf:=by simp [ik]
theorem ET (pre:List Value) (v:qz) (n:Int) (post:List Value):(ik pre v n post)[pre.length+2]?=some (.int .i64 n):=by simp [ik]
theorem Iy (pre:List Value) (v:qz) (n:Int) (post:List Value) (x:Value):(ik pre v n post).setIfInBounds pre.length x=ik pre {v with uv:=x} n post:=by simp [ik]
theorem C1 (pre:List Value) (v:qz) (n:Int) (post:List Value) (x:Value):(ik pre v n post).setIfInBounds (pre.length+1) x=ik pre {v with uf:=x} n post:=by simp [ik]
theorem fV.c0 (h:fV w b pre post t v s):w.cell? ⟨b,pre.length,none⟩=some v.uv:=(h.km.cell _).trans (rE _ _ _ _)
theorem fV.c1 (h:fV w b pre post t v s):w.cell? ⟨b,pre.length+1,none⟩=some v.uf:=(h.km.cell _).trans (yP _ _ _ _)
theorem fV.c2 (h:fV w b pre post t v s):w.cell? ⟨b,pre.length+2,none⟩=some (.int .i64 s.asks):=(h.km.cell _).trans (ET _ _ _ _)
theorem fV.Hg {α:Type} {t':TypeId} {k:Nat} {enc:α ->List Value} {B:Nat} {u:Value} {l:List α} (h:fV w b pre post t v s) (ho:ea t' k enc w B u l) (ht:t'=42\/t'=40\/t'=46):¬ eH u b:=by
 intro hg;obtain⟨cur,hb⟩:=ho.has hg;have:=hb.uniq h.km;subst this;rcases ht with ht | ht | ht
 ·exact h.ty.1 ht
 ·exact h.ty.2.1 ht
 ·exact h.ty.2.2.1 ht
theorem fV.FC {w1:World} (h:fV w b pre post t v s) (hk:ee (eH v.uv) w w1):
  eP w1 b (ik pre v s.asks post) t/\ea 40 5 mg w1 0 v.uf (s.ey.zip v.us)/\gY w1 s.ey v.us:=by
 refine⟨h.km.keeps hk (h.Hg h.ej (.inl rfl)),h.ey.keeps hk (fun g hg=>ea.ne h.ey h.ej (by decide) g hg),h.rows.to (fun f u hu hf=>?_)⟩;exact hf.keeps hk (fun g hg h2=>by
  rcases hg with hg | hg
  ·exact h.I8 u hu g h2 hg
  ·exact ea.ne hf.2 h.ej (by decide) g hg h2)
theorem fV.yh {w1:World} {uv':Value} {Sg:List fm} (h:fV w b pre post t v s) (ho:ea 42 2 gw w1 0 uv' Sg) (hk:ee (eH v.uv) w w1) (hs:eM w v.uv uv'):
  fV (w1.setCell ⟨b,pre.length,none⟩ uv') b pre post t {v with uv:=uv'} {s with ej:=Sg}/\kn v {v with uv:=uv'} b w (w1.setCell ⟨b,pre.length,none⟩ uv'):=by
 obtain⟨h1,h2,h3⟩:=fV.FC h hk;have Lt:=eC w1 b pre.length uv';have hb:∀{α:Type} {t':TypeId} {k:Nat} {enc:α ->List Value} {B:Nat} {u:Value} {l:List α},ea t' k enc w1 B u l ->(t'=42\/t'=40\/t'=46) ->∀g,eH u g ->¬ g=b:=by
  intro α t' k enc B u l ho ht g hg he;subst he;obtain⟨cur,hb⟩:=ho.has hg;have:=hb.uniq h1;subst this;rcases ht with ht | ht | ht
  ·exact h.ty.1 ht
  ·exact h.ty.2.1 ht
  ·exact h.ty.2.2.1 ht
 refine⟨⟨?_,ho.keeps Lt (hb ho (.inl rfl)),h2.keeps Lt (hb h2 (.inr (.inl rfl))),h3.to (fun f u hu hf=>hf.keeps Lt (fun g hg=>?_)),?_,h.apart,h.ty⟩,?_,?_⟩
 ·have:=h1.set pre.length uv'
  rw [Iy]at this;exact this
 ·rcases hg with hg | hg
  ·exact hb hf.1 (.inl rfl) g hg
  ·exact hb hf.2 (.inr (.inr rfl)) g hg
 ·intro u hu g hg h4
  rcases hs g hg with h5 | h5
  ·exact h.I8 u hu g h5 h4
  ·obtain⟨f,hf⟩:=h.rows.mem hu
   have:=(eE hf.1 h4).2;omega
 ·exact(hk.mono (fun g hg=> .inr (.inl hg))).trans Lt (fun g hg=> .inl (.inl hg))
 ·intro g hg
  rcases hg with hg | hg | hg | hg
  ·exact .inl (.inl hg)
  ·exact(hs g hg).imp (fun h=> .inr (.inl h)) id
  ·exact .inl (.inr (.inr (.inl hg)))
  ·exact .inl (.inr (.inr (.inr hg)))
theorem fV.top {lo:List fc} {f:fc} (h:fV w b pre post t v s) (hs:s.ey=lo++[f]):
  ∃us u g cap,v.us=us++[u]/\us.length=lo.length/\v.uf= .slice (some ⟨g,0,none⟩) (lo.length+1) cap/\lo.length+1 <=cap/\cap <=9223372036854775807/\g < w.heap.size/\
   (w.cell? ⟨g,lo.length*5,none⟩=some (.int .i64 f.fn)/\w.cell? ⟨g,lo.length*5+1,none⟩=some (.int .i64 f.pc)/\w.cell? ⟨g,lo.length*5+2,none⟩=some u.1/\w.cell? ⟨g,lo.length*5+3,none⟩=some (.int .i64 f.base)/\w.cell? ⟨g,lo.length*5+4,none⟩=some u.2)/\
   gY w lo us/\nI w f u/\∀i,w.frozen? ⟨g,i,none⟩=false:=by
 have hr:=h.rows;rw [hs]at hr;obtain⟨us,u,hu,h1,h2⟩:=hr.open;have hlen:=h1.len;have hf:=h.ey;rw [hs,hu,dq hlen.symm]at hf;obtain⟨g,cap,cur,he,-,hg,hb,Mk,hm⟩:=hf.open (by simp);have hl:(lo.zip us++[f].zip [u]).length=lo.length+1:=by simp [hlen]
 rw [hl]at he Mk;rw [he]at hf;have hx:(lo.zip us++[f].zip [u])[lo.length]?=some (f,u):=by
  rw [bp (by simp [hlen])];simp [hlen]
 exact⟨us,u,g,cap,hu,hlen,he,Mk,by simpa [maxLen] using hm,hg,⟨by have:=ea.cell iH hf (j:=0) hx rfl;rwa [aK]at this,ea.cell iH hf (j:=1) hx rfl,ea.cell iH hf (j:=2) hx rfl,ea.cell iH hf (j:=3) hx rfl,ea.cell iH hf (j:=4) hx rfl⟩,h1,h2,ea.free hf⟩
theorem Cl {uv:Value} {ej:List fm} {asks:Int} {lo:List fc} {f f':fc} {us:List (Value × Value)} {u u':Value × Value} {g cap:Nat} {x:Value} {j:Nat}
  (hb:eP w b (ik pre ⟨uv, .slice (some ⟨g,0,none⟩) (lo.length+1) cap,us++[u']⟩ asks post) t) (hv:ea 42 2 gw w 0 uv ej)
  (Lp:ea 40 5 mg w 0 (.slice (some ⟨g,0,none⟩) (lo.length+1) cap) ((lo++[f]).zip (us++[u]))) (Sf:gY w lo us) (hr:nI w f' u')
  (hj:j < 5) (he:mg (f',u')=(mg (f,u)).set j x) (hfar:∀u2∈us++[u'],∀g,eH uv g ->¬ eH u2.1 g) (hap:vB (us++[u'])) (ht:t≠42/\t≠40/\t≠46/\t≠74):
  fV (w.setCell ⟨g,lo.length*5+j,none⟩ x) b pre post t ⟨uv, .slice (some ⟨g,0,none⟩) (lo.length+1) cap,us++[u']⟩ ⟨ej,lo++[f'],asks⟩:=by
 have hlen:=Sf.len;have hfr2:=Lp;rw [dq hlen.symm]at Lp;have hx:(lo.zip us++[f].zip [u])[lo.length]?=some (f,u):=by
  rw [bp (by simp [hlen])];simp [hlen]
 have Pp:=ea.set iH Lp hx hj he;have e4:(lo.zip us++[f].zip [u]).set lo.length (f',u')=lo.zip us++[f'].zip [u']:=by
  rw [List.set_append_right _ _ (by simp [hlen])];simp [hlen]
 rw [e4, <- dq hlen.symm]at Pp;have Lt:=eC w g (lo.length*5+j) x;have hg:eH (.slice (some ⟨g,0,none⟩) (lo.length+1) cap) g:=by simp [eH,Value.ownBlock]
 refine⟨hb.keeps Lt (fun e=>?_),hv.keeps Lt (fun i hi e=>ea.ne hv Lp (by decide) i hi (by rw [e];exact hg)),Pp,
  (gY.snoc Sf hr).to (fun f2 u2 _ h3=>h3.keeps Lt (fun i hi e=>?_)),hfar,hap,ht⟩
 ·obtain⟨cur,hc⟩:=hfr2.has hg
  rw [<- e]at hc;exact ht.2.1 (hb.uniq hc)
 ·rcases hi with hi | hi
  ·exact ea.ne h3.1 Lp (by decide) i hi (by rw [e];exact hg)
  ·exact ea.ne h3.2 Lp (by decide) i hi (by rw [e];exact hg)
theorem fV.Bw {uv:Value} {ej:List fm} {asks:Int} {lo:List fc} {f:fc} (f':fc) {us:List (Value × Value)} {u:Value × Value} {g cap:Nat} {x:Value} (j:Nat) (h:fV w b pre post t ⟨uv, .slice (some ⟨g,0,none⟩) (lo.length+1) cap,us++[u]⟩ ⟨ej,lo++[f],asks⟩)
  (hj:j < 5) (he:mg (f',u)=(mg (f,u)).set j x) (h1:f'.locals=f.locals) (h2:f'.labels=f.labels):
  fV (w.setCell ⟨g,lo.length*5+j,none⟩ x) b pre post t ⟨uv, .slice (some ⟨g,0,none⟩) (lo.length+1) cap,us++[u]⟩ ⟨ej,lo++[f'],asks⟩/\
   kn ⟨uv, .slice (some ⟨g,0,none⟩) (lo.length+1) cap,us++[u]⟩ ⟨uv, .slice (some ⟨g,0,none⟩) (lo.length+1) cap,us++[u]⟩ b w (w.setCell ⟨g,lo.length*5+j,none⟩ x):=by
 obtain⟨us2,u2,e2,h3,h4⟩:=h.rows.open;obtain⟨rfl,e3⟩:=dz e2 rfl;injection e3 with e3;subst e3;exact⟨Cl h.km h.ej h.ey h3 (by unfold nI;rw [h1,h2];exact h4) hj he h.I8 h.apart h.ty,
  (eC w g _ x).mono (fun i hi=>by subst hi;exact .inr (.inr (.inl (by simp [eH,Value.ownBlock])))),fun i hi=> .inl hi⟩
theorem fV.Je {w1:World} {uv uf:Value} {ej:List fm} {asks:Int} {lo:List fc} {f:fc} {us:List (Value × Value)} {u:Value × Value} (h:fV w b pre post t ⟨uv,uf,us++[u]⟩ ⟨ej,lo++[f],asks⟩) (hk:ee (eH u.2) w w1):
  eP w1 b (ik pre ⟨uv,uf,us++[u]⟩ asks post) t/\ea 42 2 gw w1 0 uv ej/\ea 40 5 mg w1 0 uf ((lo++[f]).zip (us++[u]))/\gY w1 lo us/\ea 42 2 gw w1 0 u.1 f.locals:=by
 obtain⟨us2,u2,e2,h1,h2⟩:=h.rows.open;obtain⟨rfl,e3⟩:=dz e2 rfl;injection e3 with e3;subst e3;have hv:=h.ej;have hf:=h.ey;simp only at hv hf;refine⟨h.km.keeps hk (h.Hg h2.2 (.inr (.inr rfl))),hv.keeps hk (fun g hg=>ea.ne hv h2.2 (by decide) g hg),hf.keeps hk (fun g hg=>ea.ne hf h2.2 (by decide) g hg),h1.to (fun f3 u3 hu3 h3=>h3.keeps hk (fun g hg h5=>?_)),h2.1.keeps hk (fun g hg=>ea.ne h2.1 h2.2 (by decide) g hg)⟩;rcases hg with hg | hg
 ·exact ea.ne h3.1 h2.2 (by decide) g hg h5
 ·have:=h.apart
  rw [vB,cG]at this;exact(this.2.2 u3 hu3 u (by simp)).2 g hg h5
theorem fV.CS {w1:World} {uv:Value} {ej:List fm} {asks:Int} {lo:List fc} {f:fc} {us:List (Value × Value)} {u:Value × Value} {g cap:Nat} {x:Value} {Qh:List jD} (h:fV w b pre post t ⟨uv, .slice (some ⟨g,0,none⟩) (lo.length+1) cap,us++[u]⟩ ⟨ej,lo++[f],asks⟩)
  (ho:ea 46 2 kq w1 0 x Qh) (hk:ee (eH u.2) w w1) (hs:eM w u.2 x):
  fV (w1.setCell ⟨g,lo.length*5+4,none⟩ x) b pre post t ⟨uv, .slice (some ⟨g,0,none⟩) (lo.length+1) cap,us++[(u.1,x)]⟩ ⟨ej,lo++[{f with labels:=Qh}],asks⟩/\
   kn ⟨uv, .slice (some ⟨g,0,none⟩) (lo.length+1) cap,us++[u]⟩ ⟨uv, .slice (some ⟨g,0,none⟩) (lo.length+1) cap,us++[(u.1,x)]⟩ b w (w1.setCell ⟨g,lo.length*5+4,none⟩ x):=by
 obtain⟨h1,h2,h3,h4,h5⟩:=h.Je hk;have hrows:=h.rows;refine⟨Cl h1 h2 h3 h4 ⟨h5,ho⟩ (by decide) rfl ?_ ?_ h.ty,?_,?_⟩
 ·intro u2 No
  rcases aZ.1 No with h6 | h6
  ·exact h.I8 u2 (by simp [h6])
  ·rw [aQ.1 h6]
   exact h.I8 u (by simp)
 ·have hap:=h.apart
  rw [vB,cG]at hap⊢;refine⟨hap.1,by simp,fun a ha c hc=>?_⟩;rw [aQ.1 hc];refine⟨(hap.2.2 a ha u (by simp)).1,fun i hi h7=>?_⟩;rcases hs i h7 with h8 | h8
  ·exact(hap.2.2 a ha u (by simp)).2 i hi h8
  ·obtain⟨fa,hfa⟩:=hrows.mem (u:=a) (by simp [ha])
   have:=(eE hfa.2 hi).2;omega
 ·refine(hk.mono (fun i hi=> .inr (.inr (.inr ⟨u,by simp, .inr hi⟩)))).trans (eC w1 g _ x) (fun i hi=>?_)
  subst hi;exact .inl (.inr (.inr (.inl (by simp [eH,Value.ownBlock]))))
 ·intro i hi
  rcases hi with hi | hi | hi | ⟨u2,No,hi⟩
  ·exact .inl (.inl hi)
  ·exact .inl (.inr (.inl hi))
  ·exact .inl (.inr (.inr (.inl hi)))
  ·rcases aZ.1 No with h6 | h6
   ·exact .inl (.inr (.inr (.inr ⟨u2,by simp [h6],hi⟩)))
   ·rw [aQ.1 h6]at hi
    rcases hi with hi | hi
    ·exact .inl (.inr (.inr (.inr ⟨u,by simp, .inl hi⟩)))
    ·exact(hs i hi).imp (fun h=> .inr (.inr (.inr ⟨u,by simp, .inr h⟩))) id
theorem fV.CF {w1:World} (h:fV w b pre post t v s) (hk:ee (eH v.uf) w w1):
  eP w1 b (ik pre v s.asks post) t/\ea 42 2 gw w1 0 v.uv s.ej/\gY w1 s.ey v.us:=by
 refine⟨h.km.keeps hk (h.Hg h.ey (.inr (.inl rfl))),h.ej.keeps hk (fun g hg=>ea.ne h.ej h.ey (by decide) g hg),h.rows.to (fun f u hu hf=>?_)⟩;exact hf.keeps hk (fun g hg h2=>by
  rcases hg with hg | hg
  ·exact ea.ne hf.1 h.ey (by decide) g hg h2
  ·exact ea.ne hf.2 h.ey (by decide) g hg h2)
theorem CK {w1:World} {v':qz} {s':gV} (k:Nat) (x:Value) (hb:eP w1 b (ik pre v s.asks post) t) (he:(ik pre v s.asks post).setIfInBounds k x=ik pre v' s'.asks post)
  (hv:ea 42 2 gw w1 0 v'.uv s'.ej) (hf:ea 40 5 mg w1 0 v'.uf (s'.ey.zip v'.us)) (hr:gY w1 s'.ey v'.us)
  (hfar:∀u∈v'.us,∀g,eH v'.uv g ->¬ eH u.1 g) (hap:vB v'.us) (ht:t≠42/\t≠40/\t≠46/\t≠74):
  fV (w1.setCell ⟨b,k,none⟩ x) b pre post t v' s':=by
 have Lt:=eC w1 b k x;have hn:∀{α:Type} {t':TypeId} {k:Nat} {enc:α ->List Value} {B:Nat} {u:Value} {l:List α},ea t' k enc w1 B u l ->(t'=42\/t'=40\/t'=46) ->∀g,eH u g ->¬ g=b:=by
  intro α t' k enc B u l ho hte g hg e;subst e;obtain⟨cur,hc⟩:=ho.has hg;have:=hc.uniq hb;subst this;rcases hte with hte | hte | hte
  ·exact ht.1 hte
  ·exact ht.2.1 hte
  ·exact ht.2.2.1 hte
 refine⟨?_,hv.keeps Lt (hn hv (.inl rfl)),hf.keeps Lt (hn hf (.inr (.inl rfl))),hr.to (fun f u _ h3=>h3.keeps Lt (fun g hg=>?_)),hfar,hap,ht⟩
 ·have:=hb.set k x
  rw [he]at this;exact this
 ·rcases hg with hg | hg
  ·exact hn h3.1 (.inl rfl) g hg
  ·exact hn h3.2 (.inr (.inr rfl)) g hg
theorem fV.FW {uv:Value} {ej:List fm} {asks:Int} {lo:List fc} {f:fc} {us:List (Value × Value)} {u:Value × Value} {g cap:Nat} (h:fV w b pre post t ⟨uv, .slice (some ⟨g,0,none⟩) (lo.length+1) cap,us++[u]⟩ ⟨ej,lo++[f],asks⟩):
  fV (w.setCell ⟨b,pre.length+1,none⟩ (.slice (some ⟨g,0,none⟩) lo.length cap)) b pre post t ⟨uv, .slice (some ⟨g,0,none⟩) lo.length cap,us⟩ ⟨ej,lo,asks⟩/\
   kn ⟨uv, .slice (some ⟨g,0,none⟩) (lo.length+1) cap,us++[u]⟩ ⟨uv, .slice (some ⟨g,0,none⟩) lo.length cap,us⟩ b w (w.setCell ⟨b,pre.length+1,none⟩ (.slice (some ⟨g,0,none⟩) lo.length cap)):=by
 obtain⟨us2,u2,e2,h3,h4⟩:=h.rows.open;obtain⟨rfl,e3⟩:=dz e2 rfl;injection e3 with e3;subst e3;have hlen:=h3.len;have Lp:=h.ey;simp only at Lp;rw [dq hlen.symm]at Lp;have hT:=ea.take iH Lp lo.length (by simp [hlen]);rw [dF (by simp [hlen])]at hT;have hap:=h.apart;rw [vB,cG]at hap;refine⟨CK _ _ h.km (by rw [C1];rfl) h.ej hT h3 (fun u2 No=>h.I8 u2 (by simp [No])) hap.1 h.ty,(eC w b _ _).mono (fun i hi=> .inl hi),fun i hi=> .inl ?_⟩;rcases hi with hi | hi | hi | ⟨u2,No,hi⟩
 ·exact .inl hi
 ·exact .inr (.inl hi)
 ·exact .inr (.inr (.inl ((ea.same i).1 hi)))
 ·exact .inr (.inr (.inr ⟨u2,by simp [No],hi⟩))
theorem fV.DL {w1:World} {f:fc} {u:Value × Value} {uf':Value} (h:fV w b pre post t v s) (hr:nI w f u) (hn:∀g,eH u.1 g\/eH u.2 g ->¬ v.own b g) (hnk:∀g,eH u.1 g\/eH u.2 g ->¬ eH v.uf g) (ho:ea 40 5 mg w1 0 uf' (s.ey.zip v.us++[(f,u)])) (hk:ee (eH v.uf) w w1) (hs:eM w v.uf uf'):
  fV (w1.setCell ⟨b,pre.length+1,none⟩ uf') b pre post t ⟨v.uv,uf',v.us++[u]⟩ ⟨s.ej,s.ey++[f],s.asks⟩/\
   ee (v.own b) w (w1.setCell ⟨b,pre.length+1,none⟩ uf')/\∀g,(⟨v.uv,uf',v.us++[u]⟩:qz).own b g ->v.own b g\/(eH u.1 g\/eH u.2 g)\/w.heap.size <=g:=by
 obtain⟨h1,h2,h3⟩:=h.CF hk;have hlen:=h.rows.len;have e1:s.ey.zip v.us++[(f,u)]=(s.ey++[f]).zip (v.us++[u]):=by rw [dq hlen.symm];rfl
 rw [e1]at ho;refine⟨CK (s:=s) _ _ h1 (by rw [C1];rfl) h2 ho (gY.snoc h3 (hr.keeps hk hnk)) ?_ ?_ h.ty,?_,?_⟩
 ·intro u2 No g hg
  rcases aZ.1 No with h6 | h6
  ·exact h.I8 u2 h6 g hg
  ·rw [aQ.1 h6]
   exact fun h7=>hn g (.inl h7) (.inr (.inl hg))
 ·rw [vB,cG]
  refine⟨h.apart,by simp,fun a ha c hc=>?_⟩;rw [aQ.1 hc];exact⟨fun g hg h7=>hn g (.inl h7) (.inr (.inr (.inr ⟨a,ha, .inl hg⟩))),fun g hg h7=>hn g (.inr h7) (.inr (.inr (.inr ⟨a,ha, .inr hg⟩)))⟩
 ·refine(hk.mono (fun i hi=> .inr (.inr (.inl hi)))).trans (eC w1 b _ uf') (fun i hi=> .inl (.inl hi))
 ·intro g hg
  rcases hg with hg | hg | hg | ⟨u2,No,hg⟩
  ·exact .inl (.inl hg)
  ·exact .inl (.inr (.inl hg))
  ·exact(hs g hg).elim (fun h=> .inl (.inr (.inr (.inl h)))) (fun h=> .inr (.inr h))
  ·rcases aZ.1 No with h6 | h6
   ·exact .inl (.inr (.inr (.inr ⟨u2,h6,hg⟩)))
   ·rw [aQ.1 h6]at hg
    exact .inr (.inl hg)
theorem fV.cells {uv:Value} {ej:List fm} {asks:Int} {lo:List fc} {f:fc} {us:List (Value × Value)} {u:Value × Value} {g cap:Nat} (h:fV w b pre post t ⟨uv, .slice (some ⟨g,0,none⟩) (lo.length+1) cap,us++[u]⟩ ⟨ej,lo++[f],asks⟩):
  (w.cell? ⟨g,lo.length*5,none⟩=some (.int .i64 f.fn)/\w.cell? ⟨g,lo.length*5+1,none⟩=some (.int .i64 f.pc)/\w.cell? ⟨g,lo.length*5+2,none⟩=some u.1/\w.cell? ⟨g,lo.length*5+3,none⟩=some (.int .i64 f.base)/\w.cell? ⟨g,lo.length*5+4,none⟩=some u.2)/\
   nI w f u/\gY w lo us/\(∀i,w.frozen? ⟨g,i,none⟩=false)/\g < w.heap.size/\lo.length+1 <=cap/\cap <=9223372036854775807:=by
 obtain⟨us2,u2,g2,Lu,e1,_,e2,h3,h4,h5,h6,h7,h8,h9⟩:=h.top rfl;obtain⟨rfl,e3⟩:=dz e1 rfl;injection e3 with e3;injection e2 with e4 _ e5;injection e4 with e4;injection e4 with e4;subst e3 e4 e5;exact⟨h6,h8,h7,h9,h5,h3,h4⟩
end
end
section
open Go.RowKit Go.Maps
def I0 (n:Int):DataW Unit:= .lit (.int .i64 n)
def tb (b:iR):DataW Unit:= .agg [I0 b.pos,I0 b.JS,I0 b.fin]
def rq:Value ->Option (DataW Unit × List MemPlace)
 | .agg cs=>match cs.toList with
  | [.int .i64 a, .int .i64 b, .int .i64 c]=>some (tb ⟨a,b,c⟩,[])
  | _=>none
 | _=>none
theorem Ci (b:iR):rq (.agg (sQ b).toArray)=some (tb b,[]):=rfl
theorem yG {v:Value} {d:DataW Unit} {ps:List MemPlace} (h:rq v=some (d,ps)):∃b:iR,v= .agg (sQ b).toArray/\d=tb b:=by
 unfold rq at h;split at h
 ·rename_i cs
  split at h
  ·rename_i a b c RG
   injection h with h;injection h with h1 h2;refine⟨⟨a,b,c⟩,?_,h1.symm⟩
   congr 1
   apply Array.toList_inj.1;rw [RG];rfl
  ·cases h
 ·cases h
theorem E6 {a b:iR} (h:tb a=tb b):a=b:=by
 obtain⟨a1,a2,a3⟩:=a;obtain⟨b1,b2,b3⟩:=b;simp only [tb,I0,DataW.agg.injEq,List.cons.injEq,DataW.lit.injEq,Lit.int.injEq,true_and,and_true]at h;simp [h]
def mZ (D:DataW Unit) (b:iR):DataW Unit:=D.put (.int .i64 b.pos) (tb b)
def tW (l:List iR):DataW Unit:=l.foldl mZ (.map [])
theorem BE (l:List iR) (b:iR):tW (l++[b])=(tW l).put (.int .i64 b.pos) (tb b):=by simp [tW,mZ,List.foldl_append]
theorem BX:∀(l:List iR) (D:DataW Unit),IsMap D ->IsMap (l.foldl mZ D)
 | [],_,h=>h
 | _::l,_,h=>BX l _ (h.put _ _)
theorem wK (n:Int) (z:DataW Unit):∀(l:List iR) (D:DataW Unit),IsMap D ->(l.foldl mZ D).atKey (.int .i64 n) z=((l.reverse.find? fun b=>b.pos==n).map tb).getD (D.atKey (.int .i64 n) z)
 | [],D,_=>rfl
 | b::l,D,h=>by
  rw [List.foldl_cons,wK n z l (mZ D b) (h.put _ _),List.reverse_cons,List.find?_append];cases hf:l.reverse.find? fun b=>b.pos==n with
  | some y=>rfl
  | none=>
   by_cases q:b.pos=n
   ·subst q
    simp [mZ,atKey_put_same h (show WideAt.IsKeyLit (.int .i64 b.pos)from trivial)]
   ·have q2:(b.pos==n)=false:=by simp [q]
    simp only [Option.none_or,List.find?_cons,q2,List.find?_nil,dS,Option.getD_none,mZ];exact atKey_put_other (fun e=>q (by injection e with _ e;exact e.symm)) _ _
theorem Gu (l:List iR) (n:Int):(tW l).atKey (.int .i64 n) (tb ⟨0,0,0⟩)=tb (lN l n):=by
 rw [tW,wK n _ l _ isMap_empty,lN];cases l.reverse.find? fun b=>b.pos==n <;>rfl
def fQ (w:World) (j:Nat) (l:List iR):Prop:=∃n,n <=l.length/\w.ownsMap prog 3 rq j n (tW l)
theorem fQ.lt {w:World} {j:Nat} {l:List iR} (h:fQ w j l):j < w.heap.size:=by
 obtain⟨n,-,h⟩:=h;exact h.lt
theorem fQ.keeps {w w':World} {j:Nat} {l:List iR} {P:Nat ->Prop} (h:fQ w j l) (hk:ee P w w') (hj:¬ P j):fQ w' j l:=by
 have Lw:=h.lt;obtain⟨n,hn,es,clock,hb,r⟩:=h;exact⟨n,hn,es,clock,(hk.block j Lw hj).trans hb,r⟩
theorem fQ.below {w w':World} {j:Nat} {l:List iR} (h:fQ w j l) (hb:Below w.heap.size w w'):fQ w' j l:=h.keeps (P:=fun _=>False) (ee.eh hb) (fun h=>h)
theorem Ei:prog.underlying 72=some (.map 3 107):=by kernel_rfl
theorem Cq:prog.underlying 3=some (.int .i64):=by kernel_rfl
theorem Bo (w:World):(zeroValue 107).run prog w= .ok (.agg #[.int .i64 0, .int .i64 0, .int .i64 0]) w:=by kernel_rfl
theorem fQ.look {w:World} {j:Nat} {l:List iR} (h:fQ w j l) {n:Int} (hn:(Lit.int .i64 n).wf=true):
  (Instr.lookup 72 (.map (some j)) (.int .i64 n) false).run prog w= .ok (.agg #[.int .i64 (lN l n).pos, .int .i64 (lN l n).JS, .int .i64 (lN l n).fin]) w:=by
 obtain⟨k,-,h⟩:=h;obtain⟨v,ps,hr,hv⟩:=h.lookup (int_keyed Cq) Ei (Bo w) (Ci ⟨0,0,0⟩) (keyOf_int_mk Cq hn);rw [Gu]at hv;obtain⟨b,rfl,hb⟩:=yG hv;rw [E6 hb];exact hr
end
theorem A9 (K:Nat) (hK:K <=5000) (n:Int) (hn:n=(K:Int)) (w:World):(Instr.makeSlice 97 (.int .i64 n) (.int .i64 n)).run prog w=
  .ok (.slice (some ⟨w.heap.size,0,none⟩) K K) (w.alloc (.cells (List.replicate K (.int .u8 0)).toArray 5)):=by
 subst hn;obtain⟨i,hi,NW,MP,Nu⟩:=bX oW;have h:=run_make (P:=prog) w 97 5 i _ (by kernel_rfl) hi NW .i64 .i64 (K:Int) (K:Int) (by omega) (Int.le_refl _) (by rw [Nu];omega) (by omega);rw [MP,cI,bq]at h;have e:madeCells (Value.cells (.int .u8 0)) K=(List.replicate K (.int .u8 0)).toArray:=by
  apply Array.ext
  ·simp [madeCells]
  ·intro i h1 h2
   have:i %1=0:=Nat.mod_one i;simp [madeCells,Value.cells,this]
 rw [e]at h;exact h
structure z8 where
 bytes:List UInt8
 fB:Int
 Co:List Int
def EX (w:World) (B X:Nat) (e:z8):Prop:=∃v v',eP w X #[v, .int .i64 e.fB,v'] 145/\eg w B v e.bytes/\ea 3 1 fp w B v' e.Co
def oM (mx:Int):Int:=if mx= -1 then 16 else max (min 16 mx) (-1)
def jy (l:gf):Option z8:=if l.has=false\/l.min < 0\/16 < l.min then none else some ⟨List.replicate (l.min.toNat*256) 0,oM l.max,[]⟩
def C6 (l:gf) (w:World) (e:Ending) (w':World):Prop:=
 Below w.heap.size w w'/\((jy l=none/\e= .returned (.pointer none))\/∃x X,jy l=some x/\e= .returned (.pointer (some ⟨X,0,none⟩))/\EX w' w.heap.size X x/\w.heap.size <=X)
theorem zY {w:World} {g K B:Nat} (h:eP w g (List.replicate K (.int .u8 0)).toArray 5) (hB:B <=g) (hK:K <=100000):eg w B (.slice (some ⟨g,0,none⟩) K K) (List.replicate K 0):=by
 refine⟨by simp, .inr ⟨g,K,_,by simp,hB,h,by simp,by simp [maxLen];omega,by simp,?_⟩⟩;simp [List.map_replicate,bv]
theorem qP (w:World) (n:Nat) (hn:n <=16) (o:Obj) (m:Int):
  EX (((w.alloc o).alloc (.cells (Array.replicate (n*256) (.int .u8 0)) 5)).alloc (.cells #[.slice (some ⟨w.heap.size+1,0,none⟩) (n*256) (n*256), .int .i64 m, .slice none 0 0] 145)).drew w.heap.size (w.heap.size+2) ⟨List.replicate (n*256) 0,m,[]⟩/\
  Below w.heap.size w (((w.alloc o).alloc (.cells (Array.replicate (n*256) (.int .u8 0)) 5)).alloc (.cells #[.slice (some ⟨w.heap.size+1,0,none⟩) (n*256) (n*256), .int .i64 m, .slice none 0 0] 145)).drew:=by
 rw [<- List.toArray_replicate];have LC:=(an w.heap.size w).alloc (ag _) o;have Lr:=LC.alloc (by rw [aE];omega) (.cells (List.replicate (n*256) (.int .u8 0)).toArray 5);have Mf:=Lr.alloc (by rw [aE,aE];omega) (.cells #[.slice (some ⟨w.heap.size+1,0,none⟩) (n*256) (n*256), .int .i64 m, .slice none 0 0] 145);have hx:=eP.new ((w.alloc o).alloc (.cells (List.replicate (n*256) (.int .u8 0)).toArray 5)) #[.slice (some ⟨w.heap.size+1,0,none⟩) (n*256) (n*256), .int .i64 m, .slice none 0 0] 145;have hy:=(eP.new (w.alloc o) (List.replicate (n*256) (.int .u8 0)).toArray 5).alloc (.cells #[.slice (some ⟨w.heap.size+1,0,none⟩) (n*256) (n*256), .int .i64 m, .slice none 0 0] 145);simp only [aE]at hx hy;exact⟨⟨_,_,hx.drew,zY hy.drew (by omega) (by omega),ea.nil _ _⟩,Mf.drew⟩
theorem BM (l:gf) (w:World):Calls prog 28 #[.agg #[.bool l.has, .int .i64 l.min, .int .i64 l.max]] w (C6 l w):=by
 obtain⟨has,mn,mx⟩:=l;have HB:=V ((an w.heap.size w).alloc (ag _) (.cells #[.bool has, .int .i64 mn, .int .i64 mx] 55));cases has
 ·have HM:=V (show jy ⟨false,mn,mx⟩=none by unfold jy;simp)
  go_enter func28,ntmps28;go_wp2_with fail;go_ret;exact⟨HB.out, .inl ⟨HM.out,rfl⟩⟩
 by_cases q1:mn < 0
 ·have f1:decide (mn < 0)=true:=aA q1
  have HM:=V (show jy ⟨true,mn,mx⟩=none by unfold jy;rw [if_pos (.inr (.inl q1))]);clear q1;go_enter func28,ntmps28;go_wp2_with fail;go_ret;exact⟨HB.out, .inl ⟨HM.out,rfl⟩⟩
 obtain⟨n,rfl⟩:∃n:Nat,mn=n:=⟨mn.toNat,by omega⟩;have f1:decide ((n:Int) < 0)=false:=aq q1;by_cases q2:16 < n
 ·have f2:decide ((16:Int) < (n:Int))=true:=aA (by omega)
  have f3:decide (16 < n)=true:=aA q2;have HM:=V (show jy ⟨true,n,mx⟩=none by unfold jy;rw [if_pos (.inr (.inr (by show(16:Int) < n;omega)))]);clear q1 q2;go_enter func28,ntmps28;go_wp2_with fail;go_ret;exact⟨HB.out, .inl ⟨HM.out,rfl⟩⟩
 have f2:decide ((16:Int) < (n:Int))=false:=aq (by omega);have f3:decide (16 < n)=false:=aq q2;have HM:=V (show jy ⟨true,n,mx⟩=some ⟨List.replicate (n*256) 0,oM mx,[]⟩by
  unfold jy;rw [aC (by simp;omega),cI])
 have hmk:=fun w=>A9 (n*256) (by omega) ((n:Int)*256) (by omega) w;have hn:n <=16:=by omega
 clear q1 q2;have LC:=HB.out.alloc (by rw [aE];omega) (.cells (List.replicate (n*256) (.int .u8 0)).toArray 5);have HS:=V (LC.alloc (by rw [aE,aE];omega) (.cells #[.slice (some ⟨w.heap.size+1,0,none⟩) (n*256) (n*256), .int .i64 16, .slice none 0 0] 145));have hx:=eP.new ((w.alloc (.cells #[.bool true, .int .i64 n, .int .i64 mx] 55)).alloc (.cells (List.replicate (n*256) (.int .u8 0)).toArray 5)) #[.slice (some ⟨w.heap.size+1,0,none⟩) (n*256) (n*256), .int .i64 16, .slice none 0 0] 145;have hy:=(eP.new (w.alloc (.cells #[.bool true, .int .i64 n, .int .i64 mx] 55)) (List.replicate (n*256) (.int .u8 0)).toArray 5).alloc (.cells #[.slice (some ⟨w.heap.size+1,0,none⟩) (n*256) (n*256), .int .i64 16, .slice none 0 0] 145);simp only [aE]at hx hy;have HX:=V hx;have HY:=V (zY hy (B:=w.heap.size) (by omega) (by omega));have HL0:=V (((eP.new w #[.bool true, .int .i64 n, .int .i64 mx] 55).alloc (.cells (List.replicate (n*256) (.int .u8 0)).toArray 5)).alloc (.cells #[.slice (some ⟨w.heap.size+1,0,none⟩) (n*256) (n*256), .int .i64 16, .slice none 0 0] 145));clear LC hx hy;by_cases q:mx= -1
 ·have f4:=jI q
  have HMO:=V (show oM mx=16 by unfold oM;rw [if_pos q]);clear q;go_enter func28,ntmps28;go_wp2_with fail;go_ret;exact⟨HS.out, .inr ⟨_,w.heap.size+2,HM.out,rfl,by rw [HMO.out];exact⟨_,_,HX.out,HY.out,ea.nil _ _⟩,by omega⟩⟩
 have f4:=fw q;obtain⟨r1,P3⟩:∃r1:Int,min 16 mx=r1:=⟨_,rfl⟩;have HMO:=V (show oM mx=max (min 16 mx) (-1)by unfold oM;rw [if_neg q]);have x1:World.cell? _ ⟨w.heap.size+2,1,none⟩=some (.int .i64 16):=HX.out.drew.cell 1;have HL:=V (HL0.out.drew);have x2:World.cell? _ ⟨w.heap.size,2,none⟩=some (.int .i64 mx):=HL.out.cell 2;replace HX:=V HX.out.drew;have HY:=V (show eg _ w.heap.size (.slice (some ⟨w.heap.size+1,0,none⟩) (n*256) (n*256)) (List.replicate (n*256) 0)from eg.below HY.out (an _ _).drew);replace HS:=V HS.out.drew;clear q P3;go_enter func28,ntmps28;go_wp2_with fail;refine eX (fun w'=>w'.cell? ⟨w.heap.size+2,1,none⟩=some (.int .i64 16)/\w'.cell? ⟨w.heap.size,2,none⟩=some (.int .i64 mx)) 11 (up 0 7 ((7,false)::(8,false)::(9,true)::(10,true)::[])) (by kernel_rfl) (by kernel_rfl) ⟨x1,x2⟩ ?_;iterate 7 (first | (apply sk rfl rfl;simp only [pt]) | (apply ef rfl rfl rfl;·(rintro w' ⟨t0,t1⟩;go_wp2;exact⟨rfl,rfl,rfl⟩)))
 refine eo rfl rfl ?_;by_cases hq:16 <=mx
 ·have hq':decide ((16:Int) <=mx)=true:=aA hq
  replace HMO:=V (show oM mx=16 by rw [HMO.out];omega);go_wp2_with fail;refine⟨⟨x1,x2⟩,?_⟩;refine eo rfl rfl ?_;go_wp2_with fail;refine⟨⟨x1,x2⟩,?_⟩;iterate 2 (first | (apply sk rfl rfl;simp only [pt]) | (apply ef rfl rfl rfl;·(rintro w' ⟨t0,t1⟩;go_wp2;exact⟨rfl,rfl,rfl⟩)))
  refine fP rfl rfl ?_;have z1:=HX.out.free 1;go_wp2_with fail;refine⟨trivial,?_⟩;refine aD ?_;go_wp2_with fail;go_ret;have HE:=qP w n hn (.cells #[.bool true, .int .i64 n, .int .i64 mx] 55) 16;exact⟨HE.2, .inr ⟨_,w.heap.size+2,HM.out,rfl,by rw [HMO.out];exact HE.1,by omega⟩⟩
 ·have hq':decide ((16:Int) <=mx)=false:=aq hq
  by_cases hr:mx < -1
  ·have hr':decide (mx < -1)=true:=aA hr
   replace HMO:=V (show oM mx=(-1)by rw [HMO.out];omega);go_wp2_with fail;refine⟨⟨x1,x2⟩,?_⟩;refine eo rfl rfl ?_;go_wp2_with fail;refine⟨⟨x1,x2⟩,?_⟩;iterate 2 (first | (apply sk rfl rfl;simp only [pt]) | (apply ef rfl rfl rfl;·(rintro w' ⟨t0,t1⟩;go_wp2;exact⟨rfl,rfl,rfl⟩)))
   refine fP rfl rfl ?_;have z1:=HX.out.free 1;go_wp2_with fail;refine⟨trivial,?_⟩;refine aD ?_;go_wp2_with fail;go_ret;have HE:=qP w n hn (.cells #[.bool true, .int .i64 n, .int .i64 mx] 55) (-1);exact⟨HE.2, .inr ⟨_,w.heap.size+2,HM.out,rfl,by rw [HMO.out];exact HE.1,by omega⟩⟩
  ·have hr':decide (mx < -1)=false:=aq hr
   replace HMO:=V (show oM mx=mx by rw [HMO.out];omega);go_wp2_with fail;refine⟨⟨x1,x2⟩,?_⟩;refine eo rfl rfl ?_;go_wp2_with fail;refine⟨⟨x1,x2⟩,?_⟩;iterate 2 (first | (apply sk rfl rfl;simp only [pt]) | (apply ef rfl rfl rfl;·(rintro w' ⟨t0,t1⟩;go_wp2;exact⟨rfl,rfl,rfl⟩)))
   refine fP rfl rfl ?_;have z1:=HX.out.free 1;go_wp2_with fail;refine⟨trivial,?_⟩;refine aD ?_;go_wp2_with fail;go_ret;have HE:=qP w n hn (.cells #[.bool true, .int .i64 n, .int .i64 mx] 55) mx;exact⟨HE.2, .inr ⟨_,w.heap.size+2,HM.out,rfl,by rw [HMO.out];exact HE.1,by omega⟩⟩
theorem eg.gK {w:World} {B X:Nat} {v:Value} {l:List UInt8} {xs:Array Value} {t':TypeId} (h:eg w B v l) (hb:eP w X xs t') (Nm:5≠t'):∀i,eH v i ->¬ i=X:=by
 intro i hi he;subst he;obtain⟨_,⟨hv,_⟩ | ⟨g,cap,cur,hv,_,hg,_⟩⟩:=h
 ·rw [hv]at hi;simp [eH,Value.ownBlock]at hi
 ·rw [hv]at hi
  simp [eH,Value.ownBlock]at hi;subst hi;have:=hb.symm.trans hg;injection this with this;injection this with e1 e2;exact Nm e2.symm
def J1 (w:World) (B:Nat) (p:Value) (e:Option z8):Prop:=(e=none/\p= .pointer none)\/∃x X,e=some x/\p= .pointer (some ⟨X,0,none⟩)/\EX w B X x/\B <=X
theorem zX {α β:Type} {k:Nat} {enc:α × β ->List Value} {inner:World ->α ->β ->Prop} {w:World} {v:Value} {l:List α} (h:et k enc inner w v l) {x:α} (hx:x∈l):∃u,inner w x u:=by
 obtain⟨i,hi⟩:=List.getElem?_of_mem hx;obtain⟨a,cap,rfl,-,-⟩:=et.slice h;obtain⟨b,off,u,-,-,-,hu⟩:=et.get h hi;exact⟨u,hu⟩
theorem eD.JM {w:World} {u:eL} {m:eI} (h:eD w u m):∀x∈m.eA,∀y∈x.body,y.ok:=fun x hx y hy=>by
 obtain⟨u1,h1⟩:=zX h.2.2.2.2.2.2.1 hx;obtain⟨u2,h2⟩:=zX h1.1.2 hy;exact h2.2
theorem zN {w:World} {u:eL} {m:eI} (h:eD w u m) (hm:m.may):qL (fJ m)=some m:=by
 unfold qL;rw [zD hm.1.Ia h.2.2.2.2.2.2.2.2 h.JM hm.2];simp [hm]
def Gi (m:eI) (w:World) (e:Ending) (w':World):Prop:=∃u,e= .returned (.agg (u.cells m))/\eD (mask (kX w.heap.size) w') u m/\Below w.heap.size w w'
theorem Bl (m:eI) (u:eL) (w:World) (hm:eD w u m) (hs:m.words) (hy:m.may):Calls prog 27 #[.agg (u.cells m)] w (Gi m w):=by
 have HI:=V hm;have HWD:=V hs;have HY:=V hy;have HDEC:=V (zN hm hy);obtain⟨a0,c0,a1,c1,a2,c2,a3,c3,a4,c4,a5,c5,a6,c6,a7,c7,rfl⟩:=eD.open hm;clear hm hs hy;simp only [eL.cells];have LQ:=(an w.heap.size w).alloc (ag _) (.cells #[.slice a0 m.types.length c0, .slice a1 m.imports.length c1, .slice a2 m.funcs.length c2, .bool m.table.has, .int .i64 m.table.min, .int .i64 m.table.max, .bool m.mem.has, .int .i64 m.mem.min, .int .i64 m.mem.max, .slice a3 m.globals.length c3, .slice a4 m.ep.length c4, .slice a5 m.elems.length c5, .slice a6 m.eA.length c6, .slice a7 m.eK.length c7] 62);have HS:=V (LQ.alloc (by rw [aE];omega) (.cells (u0.cells m0) 62));have Nq:=eP.new (w.alloc (.cells #[.slice a0 m.types.length c0, .slice a1 m.imports.length c1, .slice a2 m.funcs.length c2, .bool m.table.has, .int .i64 m.table.min, .int .i64 m.table.max, .bool m.mem.has, .int .i64 m.mem.min, .int .i64 m.mem.max, .slice a3 m.globals.length c3, .slice a4 m.ep.length c4, .slice a5 m.elems.length c5, .slice a6 m.eA.length c6, .slice a7 m.eK.length c7] 62)) (u0.cells m0) 62;rw [aE]at Nq;have HX:=V Nq;simp only [eL.cells,u0,m0]at HX HS;clear LQ Nq;go_enter func27,ntmps27;go_wp2_with fail;obtain⟨wA,P1⟩:∃wA,wA=(w.alloc (.cells #[.slice a0 m.types.length c0, .slice a1 m.imports.length c1, .slice a2 m.funcs.length c2, .bool m.table.has, .int .i64 m.table.min, .int .i64 m.table.max, .bool m.mem.has, .int .i64 m.mem.min, .int .i64 m.mem.max, .slice a3 m.globals.length c3, .slice a4 m.ep.length c4, .slice a5 m.elems.length c5, .slice a6 m.eA.length c6, .slice a7 m.eK.length c7] 62)).alloc (.cells #[.slice none 0 0, .slice none 0 0, .slice none 0 0, .bool false, .int .i64 0, .int .i64 0, .bool false, .int .i64 0, .int .i64 0, .slice none 0 0, .slice none 0 0, .slice none 0 0, .slice none 0 0, .slice none 0 0] 62):=⟨_,rfl⟩;rw [<- P1]at HS HX⊢;clear P1;refine(ov m ⟨.slice a0 m.types.length c0, .slice a1 m.imports.length c1, .slice a2 m.funcs.length c2, .slice a3 m.globals.length c3, .slice a4 m.ep.length c4, .slice a5 m.elems.length c5, .slice a6 m.eA.length c6, .slice a7 m.eK.length c7⟩ wA (eD.below HI.out HS.out) HWD.out).mono ?_;rintro e w2 ⟨v,rfl,⟨OB,-⟩ | ⟨-,hv⟩,hb⟩
 ·exact absurd HY.out OB
 replace HX:=V (HX.out.below hb HX.out.lt);replace HS:=V (HS.out.trans (hb.mono HS.out.size));have HV:=V hv;clear hb hv;go_wp2_with fail;refine(qF v (fJ m) w2 HV.out (by have:=HY.out.2;omega)).mono ?_;rintro e w3 ⟨hb,⟨u,m',hd,rfl,hu,-⟩ | ⟨hd,-⟩⟩;rotate_left
 ·rw [HDEC.out]at hd
  cases hd
 rw [HDEC.out]at hd;injection hd with hd;subst hd;have hlow:w.heap.size+1 < w2.heap.size:=HX.out.lt;replace HX:=V (HX.out.below hb HX.out.lt);replace HS:=V (HS.out.trans (hb.mono HS.out.size));have HU:=V hu;clear hb hu HV;obtain⟨b0,k0,b1,k1,b2,k2,b3,k3,b4,k4,b5,k5,b6,k6,b7,k7,rfl⟩:=eD.open HU.out;simp only [eL.cells];have LC:=(an w3.heap.size w3).alloc (ag _) (.cells #[.slice b0 m.types.length k0, .slice b1 m.imports.length k1, .slice b2 m.funcs.length k2, .bool m.table.has, .int .i64 m.table.min, .int .i64 m.table.max, .bool m.mem.has, .int .i64 m.mem.min, .int .i64 m.mem.max, .slice b3 m.globals.length k3, .slice b4 m.ep.length k4, .slice b5 m.elems.length k5, .slice b6 m.eA.length k6, .slice b7 m.eK.length k7] 62);have HZ:=V (eP.new w3 #[.slice b0 m.types.length k0, .slice b1 m.imports.length k1, .slice b2 m.funcs.length k2, .bool m.table.has, .int .i64 m.table.min, .int .i64 m.table.max, .bool m.mem.has, .int .i64 m.mem.min, .int .i64 m.mem.max, .slice b3 m.globals.length k3, .slice b4 m.ep.length k4, .slice b5 m.elems.length k5, .slice b6 m.eA.length k6, .slice b7 m.eK.length k7] 62);replace HX:=V (HX.out.below LC HX.out.lt);have HB1:=V LC;clear LC;obtain⟨p0,p1,p2,p3,p4,p5,p6,p7,p8,p9,p10,p11,p12,p13⟩:=HX.out.mod;obtain⟨q0,q1,q2,q3,q4,q5,q6,q7,q8,q9,q10,Ph,q12,q13⟩:=HX.out.vr;go_wp2_with fail;have hx:=((show eP _ (w.heap.size+1) (u0.cells m0) _ from HX.out).oC ⟨.slice b0 m.types.length k0, .slice b1 m.imports.length k1, .slice b2 m.funcs.length k2, .slice b3 m.globals.length k3, .slice b4 m.ep.length k4, .slice b5 m.elems.length k5, .slice b6 m.eA.length k6, .slice b7 m.eK.length k7⟩ m).mH;have Lt:=kR (w3.alloc (.cells (eL.cells ⟨.slice b0 m.types.length k0, .slice b1 m.imports.length k1, .slice b2 m.funcs.length k2, .slice b3 m.globals.length k3, .slice b4 m.ep.length k4, .slice b5 m.elems.length k5, .slice b6 m.eA.length k6, .slice b7 m.eK.length k7⟩ m) 62)) (w.heap.size+1) ⟨.slice b0 m.types.length k0, .slice b1 m.imports.length k1, .slice b2 m.funcs.length k2, .slice b3 m.globals.length k3, .slice b4 m.ep.length k4, .slice b5 m.elems.length k5, .slice b6 m.eA.length k6, .slice b7 m.eK.length k7⟩ m;refine aN (eG rfl _ _ rfl hx) rfl ?_;exact⟨_,rfl,eD.ext (eD.ext HU.out (nN (P:=fun _=>False) (ee.eh HB1.out) (fun _ h=>h.elim) (.inl (ag _)))) ((nN Lt (fun i hi=> .inl (by omega)) (.inl (ag _))).trans (uw _ (by omega))),(HS.out.trans (HB1.out.mono HS.out.size)).trans (Lt.below (by have:=HS.out.size;simp;omega) (fun i hi=>by omega))⟩
structure qg where
 u:eL
 vm:Value
 vs:Value
 vj:Value
 js:List Nat
def Ag (j:Nat):List Value:=[.map (some j)]
theorem Ev (j:Nat):(Ag j).length=1:=rfl
theorem F4 (j:Nat):∀u∈Ag j,u.oneCell'=true:=by
 intro u hu;simp only [Ag,bB,bN,cY]at hu;rw [hu];rfl
def tA (iv:qg) (m:eI):Array Value:=
 #[iv.u.types,iv.u.imports,iv.u.funcs, .bool m.table.has, .int .i64 m.table.min, .int .i64 m.table.max, .bool m.mem.has, .int .i64 m.mem.min, .int .i64 m.mem.max,iv.u.globals,iv.u.ep,iv.u.elems,iv.u.eA,iv.u.eK,iv.vm,iv.vs,iv.vj]
structure ju (w:World) (FX:Nat ->Bool) (X:Nat) (iv:qg) (m:eI):Prop where
 km:eP w X (tA iv m) 93
 fx:FX X=true
 mod:eD (mask (fun k=> !FX k) w) iv.u m
 jumps:ea 72 1 Ag w 0 iv.vj iv.js
 fj:∀g,eH iv.vj g ->FX g=true
 maps:∀(k j:Nat) (c:gS),iv.js[k]?=some j ->m.eA[k]?=some c ->fQ w j (jf c)/\FX j=true
 len:iv.js.length=m.eA.length
 lt:∀g,FX g=true ->g < w.heap.size
theorem ju.keeps {P:Nat ->Prop} {w w':World} {FX:Nat ->Bool} {X:Nat} {iv:qg} {m:eI} (h:ju w FX X iv m) (hk:ee P w w') (hP:∀g,P g ->FX g=false):ju w' FX X iv m:=by
 have hN:∀g,FX g=true ->¬ P g:=fun g hg hp=>by rw [hP g hp]at hg;cases hg
 refine⟨h.km.keeps hk (hN X h.fx),h.fx,h.mod.ext (iY hk (fun k _ hp=>by simp [hP k hp]) (fun k _ hp=>hp)),h.jumps.keeps hk (fun g hg=>hN g (h.fj g hg)),h.fj,fun k j c hj hc=>?_,h.len,fun g hg=>bK (h.lt g hg) hk.size⟩;obtain⟨h1,h2⟩:=h.maps k j c hj hc;exact⟨h1.keeps hk (hN j h2),h2⟩
theorem ju.below {w w':World} {FX:Nat ->Bool} {X:Nat} {iv:qg} {m:eI} (h:ju w FX X iv m) (hb:Below w.heap.size w w'):ju w' FX X iv m:=h.keeps (P:=fun _=>False) (ee.eh hb) (fun _ h=>h.elim)
theorem ju.is {w:World} {FX:Nat ->Bool} {X:Nat} {iv:qg} {m:eI} (h:ju w FX X iv m):eD w iv.u m:=h.mod.gh
def xM (w:World) (FM:Nat ->Bool) (p:Value) (e:Option z8):Prop:=
 (e=none/\p= .pointer none)\/∃x X v v',e=some x/\p= .pointer (some ⟨X,0,none⟩)/\eP w X #[v, .int .i64 x.fB,v'] 145/\eg w 0 v x.bytes/\ea 3 1 fp w 0 v' x.Co/\FM X=true/\(∀g,eH v g ->FM g=true)/\∀g,eH v' g ->FM g=true
def Lk (w:World) (FSs:Nat ->Bool) (p:Value) (e:Ar):Prop:=
 ∃X v v',p= .pointer (some ⟨X,0,none⟩)/\eP w X #[v,v'] 147/\ea 3 1 fp w 0 v e.table/\ea 42 2 gw w 0 v' e.globals/\FSs X=true/\(∀g,eH v g ->FSs g=true)/\∀g,eH v' g ->FSs g=true
theorem eg.lower {w:World} {B B':Nat} {v:Value} {l:List UInt8} (h:eg w B v l) (hB:B' <=B):eg w B' v l:=mW h (fun k hk=>by have:=(eE h hk).1;omega)
theorem xM.keeps {P:Nat ->Prop} {w w':World} {FM:Nat ->Bool} {p:Value} {e:Option z8} (h:xM w FM p e) (hk:ee P w w') (hP:∀g,P g ->FM g=false):xM w' FM p e:=by
 have hN:∀g,FM g=true ->¬ P g:=fun g hg hp=>by rw [hP g hp]at hg;cases hg
 rcases h with h | ⟨x,X,v,v',h1,h2,h3,h4,h5,h6,h7,h8⟩
 ·exact .inl h
 ·exact .inr ⟨x,X,v,v',h1,h2,h3.keeps hk (hN X h6),h4.keeps hk (fun g hg=>hN g (h7 g hg)),h5.keeps hk (fun g hg=>hN g (h8 g hg)),h6,h7,h8⟩
def rQ (a b:Nat):Nat ->Bool:=fun g=>decide (a <=g)&&decide (g < b)
theorem lA {a b g:Nat}:rQ a b g=true↔a <=g/\g < b:=by simp [rQ]
theorem yc {α:Type} {k:Nat} {enc:α ->List Value} {t:TypeId} {P:Program} (w:World) {ops:Array Oper} {rest:List Oper} {o:Oper} {a:Act} {Q:Exit ->Act ->World ->Prop} (O9:o.guard=none) (s x:Operand) (ts:TypeId)
  (ho:o.op= .call {callee:= .builtin .append,args:=#[s,x],argTypes:=#[ts,ts]})
  (z:Value) (bytes:Nat) (ht:P.underlying ts=some (.slice t)) (hinf:(P.info? t).map (fun i=>(i.zero,i.size,i.bytes))=some (some z,k,bytes)) (hzs:z.cells.size=k) (h0:0 < k) (N7:bytes <=100000000)
  (B:Nat) (v:Value) (l:List α) (hs:a.eval s=v) (Lo:ea t k enc w B v l) (hk:∀x,(enc x).length=k)
  (b:Value) (m:List α) (hx:a.eval x=b) (hm:ew k enc w b m) (h1:∀y∈m,∀u∈enc y,u.oneCell'=true)
  (PC:l.length+m.length <=1000000) (LY:B <=w.heap.size)
  (h:∀v' w',ea t k enc w' B v' (l++m) ->ee (eH v) w w' ->eM w v v' ->wpList P ops Q rest (a.put o.dst v') w'):wpList P ops Q (o::rest) a w:=by
 cases m with
 | cons y m=>
  have hm':=hm;obtain⟨ad,cap,rfl,M9,Mj,Rc⟩:=hm';obtain⟨b,off,rfl,_⟩:=Rc 0 y rfl;exact kU w O9 s x ts ho z bytes ht hinf hzs h0 N7 B v l hs Lo hk (y::m) ⟨b,off,none⟩ (y::m).length cap hx hm h1 PC LY h
 | nil=>
  obtain⟨i0,hi,NW,MP,Nu⟩:=bX hinf;obtain⟨ad,cap,rfl,M9,Mj,Rc⟩:=hm;have Lr:(l.length+0)*bytes <=140737488355328:=by
   have:(l.length+0)*bytes <=1000000*100000000:=dx (by simpa using PC) N7;omega
  have key:∃v' w',(Builtin.append_ #[ts,ts] o.type #[v, .slice ad 0 cap]).run P w= .ok v' w'/\ea t k enc w' B v' (l++[])/\ee (eH v) w w'/\eM w v v':=by
   cases ad with
   | some ad=>
    obtain⟨v',w',h1,h2,h3,h4⟩:=tj (P:=P) w B ts o.type t i0 z k bytes ht hi NW MP Nu hzs h0 v l.length (l.flatMap enc) Lo ad 0 cap [] (by simp) (by simp) (by simp) (by simp only [aL]at PC;simp only [maxLen];omega) Lr LY;exact⟨v',w',h1,by simpa [ea] using h2,h3,h4⟩
   | none=>
    rcases Lo.2 with⟨rfl,hl0⟩ | ⟨g,LO,cur,rfl,hb,hg,hn,hm,hs,O3⟩
    ·refine⟨.slice none 0 0,w,?_,by simpa using Lo,ee.refl _ _,eM.refl _ _⟩
     simp [Builtin.append_,bx ht,sizeOf,typeInfo,hi,Builtin.lenOf,Builtin.firstCells]
    ·refine⟨.slice (some ⟨g,0,none⟩) l.length LO,w,?_,by simpa using Lo,ee.refl _ _,eM.refl _ _⟩
     simp [Builtin.append_,bx ht,sizeOf,typeInfo,hi,Builtin.lenOf,Builtin.firstCells,hn];simp [storeCells]
  obtain⟨v',w',hr,h2,h3,h4⟩:=key;refine dV O9 fun _ hK=>?_;unfold Oper.wp execOp;simp only [ho,resolve,invoke,builtin,cL,cg,cC,dy,bG,cV,hs,hx,hr,aL];exact hK _ _ (h v' w' h2 h3 h4)
theorem yK (a:Option Addr) (len cap k:Nat) (h:k <=cap) (wx:World):
  (Instr.slice 30 (.slice a len cap) none (some (.int .i64 k)) none).run prog wx= .ok (.slice a k cap) wx:=by
 have hu:prog.underlying 30=some (.slice 42):=by kernel_rfl
 obtain⟨i0,hi,NW,MP,Nu⟩:=bX lC;simp [Instr.slice,bx hu,Instr.sliceBounds,Instr.sliceBound,sizeOf,typeInfo,hi,asIntOf,h];cases a <;>simp [Addr.add]
theorem Gx (a:Option Addr) (len cap k:Nat) (h:k <=cap) (wx:World):
  (Instr.slice 38 (.slice a len cap) none (some (.int .i64 k)) none).run prog wx= .ok (.slice a k cap) wx:=by
 have hu:prog.underlying 38=some (.slice 46):=by kernel_rfl
 obtain⟨i0,hi,NW,MP,Nu⟩:=bX oO;simp [Instr.slice,bx hu,Instr.sliceBounds,Instr.sliceBound,sizeOf,typeInfo,hi,asIntOf,h];cases a <;>simp [Addr.add]
theorem FE (a:Option Addr) (len cap k:Nat) (h:k <=cap) (wx:World):
  (Instr.slice 35 (.slice a len cap) none (some (.int .i64 k)) none).run prog wx= .ok (.slice a k cap) wx:=by
 have hu:prog.underlying 35=some (.slice 40):=by kernel_rfl
 obtain⟨i0,hi,NW,MP,Nu⟩:=bX ns;simp [Instr.slice,bx hu,Instr.sliceBounds,Instr.sliceBound,sizeOf,typeInfo,hi,asIntOf,h];cases a <;>simp [Addr.add]
theorem eP.pQ {w:World} {X:Nat} {t:TypeId} {a b c:Int} {v:Value} (h:eP w X #[.int .i64 a, .int .i64 b, .int .i64 c,v] t):(loadVar 32 ⟨X,0,none⟩).run prog w= .ok (.agg #[.int .i64 a, .int .i64 b, .int .i64 c,v]) w:=by
 have hs:(prog.underlying 32).map (fun d=>match d with | .struct _ | .array _ _=>true | _=>false)=some true:=by kernel_rfl
 obtain⟨d,h1,h2⟩:=bC.1 hs;exact bZ w X t 32 _ _ d h h1 (by cases d <;>first | rfl | (exfalso;simp at h2)) (by kernel_rfl)
def oy (o:jv) (vv:Value):Value:= .agg #[.int .i64 o.kind, .int .i64 o.qx, .int .i64 o.fn,vv]
def jB (v:Value) (w:World) (e:Ending) (w':World):Prop:=e= .returned v/\Below w.heap.size w w'
theorem pf (w:World):Calls prog 38 #[] w (jB (.agg #[.int .i64 1, .int .i64 0, .int .i64 0, .slice none 0 0]) w):=by
 go_enter func38,ntmps38;go_wp2_with fail;refine aN (eG rfl _ _ rfl (eP.pQ (eP.new w #[.int .i64 1, .int .i64 0, .int .i64 0, .slice none 0 0] 32))) rfl ⟨rfl,(an _ _).alloc (ag _) _⟩
theorem zi (w:World):Calls prog 35 #[] w (jB (.agg #[.int .i64 5, .int .i64 0, .int .i64 0, .slice none 0 0]) w):=by
 go_enter func35,ntmps35;go_wp2_with fail;refine aN (eG rfl _ _ rfl (eP.pQ (eP.new w #[.int .i64 5, .int .i64 0, .int .i64 0, .slice none 0 0] 32))) rfl ⟨rfl,(an _ _).alloc (ag _) _⟩
theorem FP (w:World) (n:Int):Calls prog 46 #[.int .i64 n] w (jB (.agg #[.int .i64 4, .int .i64 n, .int .i64 0, .slice none 0 0]) w):=by
 go_enter func46,ntmps46;go_wp2_with fail;refine aN (eG rfl _ _ rfl (eP.pQ (eP.new w #[.int .i64 4, .int .i64 n, .int .i64 0, .slice none 0 0] 32))) rfl ⟨rfl,(an _ _).alloc (ag _) _⟩
def Hc (D b o gv n cap j:Nat) (x:fm) (w:World):Prop:=
 w.cell? ⟨D,1,none⟩=some (.pointer (some ⟨b,o,none⟩))/\w.cell? ⟨b,o,none⟩=some (.slice (some ⟨gv,0,none⟩) n cap)/\w.cell? ⟨gv,j*2,none⟩=some (.int .i64 x.kind)/\w.cell? ⟨gv,j*2+1,none⟩=some (.int .i64 x.n)
theorem yY (w:World) (D b o B:Nat) (uv:Value) (l:List fm) (x:fm) (hd:w.cell? ⟨D,1,none⟩=some (.pointer (some ⟨b,o,none⟩))) (hc:w.cell? ⟨b,o,none⟩=some uv) (hv:ea 42 2 gw w B uv (l++[x])):
  Calls prog 18 #[.pointer (some ⟨D,0,none⟩), .int .i64 0] w (jB (.agg #[.int .i64 x.kind, .int .i64 x.n]) w):=by
 obtain⟨gv,cv,cur,Mx,-,hgl,hgb,MR,NC⟩:=hv.open (by simp);have hlen:(l++[x]).length=l.length+1:=by simp
 rw [hlen]at Mx MR;subst Mx;have Nq:w.cell? ⟨gv,l.length*2,none⟩=some (.int .i64 x.kind):=by
  have:=ea.cell gB hv (i:=l.length) (j:=0) (x:=x) (u:= .int .i64 x.kind) (by simp) rfl
  rwa [aK]at this
 have hx1:w.cell? ⟨gv,l.length*2+1,none⟩=some (.int .i64 x.n):=ea.cell gB hv (i:=l.length) (j:=1) (x:=x) (u:= .int .i64 x.n) (by simp) rfl;have hDl:=aT w _ hd;have Ml:=aT w _ hc;have hS:Hc D b o gv (l.length+1) cv l.length x (w.alloc (.cells #[.int .i64 0, .int .i64 0] 42)).drew:=by
  have hb:=(an w.heap.size w).alloc (ag _) (.cells #[.int .i64 0, .int .i64 0] 42);exact⟨(hb.cell hDl).trans hd,(hb.cell Ml).trans hc,(hb.cell hgl).trans Nq,(hb.cell hgl).trans hx1⟩
 have HX:=V (eP.new w #[.int .i64 0, .int .i64 0] 42).drew;have LG:=V ((an w.heap.size w).alloc (ag _) (.cells #[.int .i64 0, .int .i64 0] 42)).drew;unfold maxLen at NC;clear hlen Nq hx1 hd hc hv hgb hDl Ml;go_enter func18,ntmps18;go_wp2_with fail;refine eX (Hc D b o gv (l.length+1) cv l.length x) 20 (up 0 20 []) (by kernel_rfl) (by kernel_rfl) hS ?_;clear hS;generalize(w.alloc (.cells #[.int .i64 0, .int .i64 0] 42)).drew=w1 at HX LG⊢;iterate 20 (first | (apply sk rfl rfl;simp only [pt]) | (apply ef rfl rfl rfl;·(rintro w' ⟨t0,t1,t2,t3⟩;go_wp2;exact⟨rfl,rfl,rfl⟩)))
 refine fP rfl rfl ?_;obtain⟨x0,x1,z0,z1⟩:=HX.out.two;go_wp2_with fail;refine⟨trivial,?_⟩;refine aD ?_;clear x0 x1 z0 z1;go_wp2_with fail;have OQ:=HX.out.nx (.int .i64 x.kind) (.int .i64 x.n);refine aN (eG rfl _ _ rfl OQ.mN) rfl ⟨rfl,LG.out.trans ((fN w1 w.heap.size _ _).below LG.out.size (fun i hi=>by omega))⟩
theorem Gj (w:World) (D b o B:Nat) (uv:Value) (l:List fm) (x y:fm) (hd:w.cell? ⟨D,1,none⟩=some (.pointer (some ⟨b,o,none⟩))) (hc:w.cell? ⟨b,o,none⟩=some uv) (hv:ea 42 2 gw w B uv (l++[x,y])):
  Calls prog 18 #[.pointer (some ⟨D,0,none⟩), .int .i64 1] w (jB (.agg #[.int .i64 x.kind, .int .i64 x.n]) w):=by
 obtain⟨gv,cv,cur,Mx,-,hgl,hgb,MR,NC⟩:=hv.open (by simp);have hlen:(l++[x,y]).length=l.length+2:=by simp
 rw [hlen]at Mx MR;subst Mx;have Nq:w.cell? ⟨gv,l.length*2,none⟩=some (.int .i64 x.kind):=by
  have:=ea.cell gB hv (i:=l.length) (j:=0) (x:=x) (u:= .int .i64 x.kind) (by simp) rfl
  rwa [aK]at this
 have hx1:w.cell? ⟨gv,l.length*2+1,none⟩=some (.int .i64 x.n):=ea.cell gB hv (i:=l.length) (j:=1) (x:=x) (u:= .int .i64 x.n) (by simp) rfl;have hDl:=aT w _ hd;have Ml:=aT w _ hc;have hS:Hc D b o gv (l.length+2) cv l.length x (w.alloc (.cells #[.int .i64 0, .int .i64 0] 42)).drew:=by
  have hb:=(an w.heap.size w).alloc (ag _) (.cells #[.int .i64 0, .int .i64 0] 42);exact⟨(hb.cell hDl).trans hd,(hb.cell Ml).trans hc,(hb.cell hgl).trans Nq,(hb.cell hgl).trans hx1⟩
 have HX:=V (eP.new w #[.int .i64 0, .int .i64 0] 42).drew;have LG:=V ((an w.heap.size w).alloc (ag _) (.cells #[.int .i64 0, .int .i64 0] 42)).drew;unfold maxLen at NC;clear hlen Nq hx1 hd hc hv hgb hDl Ml;go_enter func18,ntmps18;go_wp2_with fail;refine eX (Hc D b o gv (l.length+2) cv l.length x) 20 (up 0 20 []) (by kernel_rfl) (by kernel_rfl) hS ?_;clear hS;generalize(w.alloc (.cells #[.int .i64 0, .int .i64 0] 42)).drew=w1 at HX LG⊢;iterate 20 (first | (apply sk rfl rfl;simp only [pt]) | (apply ef rfl rfl rfl;·(rintro w' ⟨t0,t1,t2,t3⟩;go_wp2;exact⟨rfl,rfl,rfl⟩)))
 refine fP rfl rfl ?_;obtain⟨x0,x1,z0,z1⟩:=HX.out.two;go_wp2_with fail;refine⟨trivial,?_⟩;refine aD ?_;clear x0 x1 z0 z1;go_wp2_with fail;have OQ:=HX.out.nx (.int .i64 x.kind) (.int .i64 x.n);refine aN (eG rfl _ _ rfl OQ.mN) rfl ⟨rfl,LG.out.trans ((fN w1 w.heap.size _ _).below LG.out.size (fun i hi=>by omega))⟩
theorem ew.at {α:Type} {k:Nat} {enc:α ->List Value} {w:World} {v:Value} {l:List α} (h:ew k enc w v l) {i:Nat} {x:α} (hx:l[i]?=some x):∃b off cap,v= .slice (some ⟨b,off,none⟩) l.length cap/\l.length <=cap/\cap <=9223372036854775807/\b < w.heap.size/\∀j u,(enc x)[j]?=some u ->w.cell? ⟨b,off+i*k+j,none⟩=some u:=by
 obtain⟨a,cap,rfl,h1,h2,h3⟩:=h;obtain⟨b,off,rfl,Lw,hc⟩:=h3 i x hx;exact⟨b,off,cap,rfl,h1,by simpa [maxLen] using h2,Lw,hc⟩
theorem ew.sl {α:Type} {k:Nat} {enc:α ->List Value} {w:World} {v:Value} {l:List α} (h:ew k enc w v l):∃a cap,v= .slice a l.length cap/\l.length <=cap/\cap <=9223372036854775807:=by
 obtain⟨a,cap,rfl,h1,h2,h3⟩:=h;exact⟨a,cap,rfl,h1,by simpa [maxLen] using h2⟩
theorem et.at {α β:Type} {k:Nat} {enc:α × β ->List Value} {inner:World ->α ->β ->Prop} {w:World} {v:Value} {l:List α} (h:et k enc inner w v l) {i:Nat} {x:α} (hx:l[i]?=some x):∃b off cap u,v= .slice (some ⟨b,off,none⟩) l.length cap/\l.length <=cap/\cap <=9223372036854775807/\b < w.heap.size/\(∀j v,(enc (x,u))[j]?=some v ->w.cell? ⟨b,off+i*k+j,none⟩=some v)/\inner w x u:=by
 obtain⟨a,cap,rfl,h1,h2⟩:=h.slice;obtain⟨b,off,u,rfl,Lw,hc,hi⟩:=h.get hx;exact⟨b,off,cap,u,rfl,h1,h2,Lw,hc,hi⟩
def sg (FX:Nat ->Bool) (w:World):World:=mask (fun k=> !FX k) w
theorem jX {FX:Nat ->Bool} {w w':World} (h:Below w.heap.size w w'):Ext (sg FX w) (sg FX w'):=iY (ee.eh (S:=fun _=>False) h) (fun _ _ h=>h.elim) (fun _ _ h=>h)
theorem uY {P:Nat ->Prop} {FX:Nat ->Bool} {w w':World} (h:ee P w w') (hP:∀g,P g ->FX g=false):Ext (sg FX w) (sg FX w'):=iY h (fun k _ hk=>by simp [hP k hk]) (fun _ _ h=>h)
theorem xz (FX:Nat ->Bool) (w:World):Ext (sg FX w) w:=sw (P:=fun _=>False) (ee.refl _ _) (fun _ _ h=>h.elim)
def If (FX:Nat ->Bool) (iv:qg) (k:Nat) (c:gS) (w:World) (e:Ending) (w':World):Prop:=∃v j,e= .returned (.tuple #[v, .map (some j)])/\gx (sg FX w') v c.body/\iv.js[k]?=some j/\Below w.heap.size w w'
def I9 (X b off b2:Nat) (QW u16 u v:Value) (k:Nat) (w:World):Prop:=
 w.cell? ⟨X,12,none⟩=some QW/\w.cell? ⟨X,16,none⟩=some u16/\w.cell? ⟨b,off+k*2+1,none⟩=some u/\w.cell? ⟨b2,k,none⟩=some v
theorem zd (w:World) (FX:Nat ->Bool) (X:Nat) (iv:qg) (m:eI) (h:ju w FX X iv m) (k:Nat) (c:gS) (hc:m.eA[k]?=some c) (f:Int) (hf:f=((m.imports.length+k:Nat):Int)) (hk:m.imports.length+k <=100000):
  Calls prog 17 #[.pointer (some ⟨X,0,none⟩), .int .i64 f] w (If FX iv k c w):=by
 subst hf;have Mm:=(aM.1 hc).1;obtain⟨j,hj⟩:∃j,iv.js[k]?=some j:=⟨_,aw (by rw [h.len];exact Mm)⟩;obtain⟨b,off,cap,u,NJ,Mk,NC,hb,LN,hi⟩:=et.at h.mod.2.2.2.2.2.2.1 hc;obtain⟨ai,ci,h1,-,hcim⟩:=h.is.2.1.sl;have hj2:=h.jumps.fR Ev;obtain⟨b2,LV,Lu,h16,hcap2,hcm2,Lr,hcj⟩:=ew.at hj2 hj;obtain⟨g,M7,cur3,h16',-,-,-,-,-⟩:=h.jumps.open (by intro e;rw [e]at hj;simp at hj);have e1:=h16.symm.trans h16';injection e1 with e1 _ _;injection e1 with e1;injection e1 with e1 e2;subst e1 e2;have x1:w.cell? ⟨X,1,none⟩=some (.slice ai m.imports.length ci):=by rw [<- h1];exact h.km.cell 1
 have x12:w.cell? ⟨X,12,none⟩=some (.slice (some ⟨b,off,none⟩) m.eA.length cap):=by rw [<- NJ];exact h.km.cell 12
 have x16:w.cell? ⟨X,16,none⟩=some (.slice (some ⟨b2,0,none⟩) iv.js.length Lu):=by rw [<- h16];exact h.km.cell 16
 have y1:w.cell? ⟨b,off+k*2+1,none⟩=some u.2:=(gg (LN 1 _ rfl)).2;have y2:w.cell? ⟨b2,k,none⟩=some (.map (some j)):=by
  have:=hcj 0 _ rfl
  rwa [bP,bq,aK]at this
 obtain⟨au,cu,hue,-,-⟩:=et.slice hi.1.2;have hS:I9 X b off b2 (.slice (some ⟨b,off,none⟩) m.eA.length cap) (.slice (some ⟨b2,0,none⟩) iv.js.length Lu) (.slice au c.body.length cu) (.map (some j)) k w.drew:=⟨x12,x16,by rw [<- hue];exact y1,y2⟩;have HB:=V (show gx (sg FX w) (.slice au c.body.length cu) c.body by rw [<- hue];exact hi.1.2);have HJ:=V hj;have hkl2:k < iv.js.length:=(aM.1 hj).1;clear h hc hj LN hi hj2 hcj NJ h1 h16 h16' x12 x16 y1 y2 hue;go_enter func17,ntmps17;go_wp2_with fail;refine eu (I9 X b off b2 (.slice (some ⟨b,off,none⟩) m.eA.length cap) (.slice (some ⟨b2,0,none⟩) iv.js.length Lu) (.slice au c.body.length cu) (.map (some j)) k) (up 0 18 []) (by kernel_rfl) (by kernel_rfl) hS ?_;clear hS;iterate 18 (first | (apply sk rfl rfl;simp only [pt]) | (apply ef rfl rfl rfl;·(rintro w' ⟨t0,t1,t2,t3⟩;go_wp2;exact⟨rfl,rfl,rfl⟩)))
 refine eV ?_;refine aD ?_;go_wp2_with fail
 go_ret2
 have hb:=(an w.heap.size w).drew;exact⟨_,j,rfl,et.ext HB.out (jX hb) (fun _ _ h=>h.ext (jX hb)),HJ.out,hb⟩
theorem mU (w:World) (FX:Nat ->Bool) (X:Nat) (iv:qg) (m:eI) (h:ju w FX X iv m) (f:Int):
  Calls prog 43 #[.pointer (some ⟨X,0,none⟩), .int .i64 f] w (jB (.bool (nw m f)) w):=by
 obtain⟨ai,ci,h1,-,hcim⟩:=h.is.2.1.sl;have x1:w.cell? ⟨X,1,none⟩=some (.slice ai m.imports.length ci):=by rw [<- h1];exact h.km.cell 1
 clear h h1;by_cases q0:f < 0
 ·have f0:decide (0 <=f)=false:=aq (by omega)
  have f1:decide (f < 0)=true:=aA q0;have HR:=V (show nw m f=false by simp [nw,f0]);clear q0;go_enter func43,ntmps43;go_wp2_with fail;go_ret;exact⟨by rw [HR.out];rfl,an _ _⟩
 have f0:decide (0 <=f)=true:=aA (by omega);have f1:decide (f < 0)=false:=aq q0;by_cases q:f < m.imports.length
 ·have f2:decide (f < (m.imports.length:Int))=true:=aA q
  have HR:=V (show nw m f=true by simp [nw,f0,f2]);clear q q0;go_enter func43,ntmps43;go_wp2_with fail;go_ret;exact⟨by rw [HR.out];rfl,an _ _⟩
 ·have f2:decide (f < (m.imports.length:Int))=false:=aq q
  have HR:=V (show nw m f=false by simp [nw,f0,f2]);clear q q0;go_enter func43,ntmps43;go_wp2_with fail;go_ret;exact⟨by rw [HR.out];rfl,an _ _⟩
def Bm (FX:Nat ->Bool) (t:gN) (w:World) (e:Ending) (w':World):Prop:=∃u1 u2,e= .returned (.tuple #[.agg #[u1,u2], .bool true])/\ew 1 fp (sg FX w') u1 t.params/\ew 1 fp (sg FX w') u2 t.results/\Below w.heap.size w w'
def vK (X b off bt MK ti:Nat) (v0 v1 v2 u1 u2:Value) (n:Int) (w:World):Prop:=
 w.cell? ⟨X,0,none⟩=some v0/\w.cell? ⟨X,1,none⟩=some v1/\w.cell? ⟨X,2,none⟩=some v2/\w.cell? ⟨b,off,none⟩=some (.int .i64 n)/\w.cell? ⟨bt,MK+ti*2,none⟩=some u1/\w.cell? ⟨bt,MK+ti*2+1,none⟩=some u2
theorem vK.keeps {P:Nat ->Prop} {X b off bt MK ti:Nat} {v0 v1 v2 u1 u2:Value} {n:Int} {w w':World} (h:vK X b off bt MK ti v0 v1 v2 u1 u2 n w) (hk:ee P w w') (hP:∀g,P g ->w.heap.size <=g\/¬ (g=X\/g=b\/g=bt)):vK X b off bt MK ti v0 v1 v2 u1 u2 n w':=by
 obtain⟨h1,h2,h3,h4,h5,h6⟩:=h;have key:∀{a:Addr} {v:Value},w.cell? a=some v ->(a.block=X\/a.block=b\/a.block=bt) ->w'.cell? a=some v:=fun ha hb=>by
  have hl:=aT w _ ha;exact(hk.cell hl (fun hp=>(hP _ hp).elim (fun h=>by omega) (fun h=>h hb))).trans ha
 exact⟨key h1 (.inl rfl),key h2 (.inl rfl),key h3 (.inl rfl),key h4 (.inr (.inl rfl)),key h5 (.inr (.inr rfl)),key h6 (.inr (.inr rfl))⟩
theorem Gm (w:World) (FX:Nat ->Bool) (X:Nat) (iv:qg) (m:eI) (h:ju w FX X iv m) (i ti:Nat) (x:jt) (t:gN) (hx:m.imports[i]?=some x) (hti:x.type=(ti:Int)) (ht:m.types[ti]?=some t) (f:Int) (hf:f=(i:Int)) (hk:m.imports.length+m.funcs.length <=100000):
  Calls prog 41 #[.pointer (some ⟨X,0,none⟩), .int .i64 f] w (Bm FX t w):=by
 subst hf;have hil:=(aM.1 hx).1;obtain⟨bt,MK,Pz,ut,h0,hcapt,hcmt,hbt,Od,hit⟩:=et.at h.mod.1 ht;obtain⟨ap,cp,hpe,-,-⟩:=hit.1.1.sl;obtain⟨ar,cr,hre,-,-⟩:=hit.1.2.sl;have htl:=(aM.1 ht).1;have x0:w.cell? ⟨X,0,none⟩=some (.slice (some ⟨bt,MK,none⟩) m.types.length Pz):=by rw [<- h0];exact h.km.cell 0
 have y1:w.cell? ⟨bt,MK+ti*2,none⟩=some (.slice ap t.params.length cp):=by rw [<- hpe];exact(gg (Od 0 _ rfl)).2
 have y2:w.cell? ⟨bt,MK+ti*2+1,none⟩=some (.slice ar t.results.length cr):=by rw [<- hre];exact(gg (Od 1 _ rfl)).2
 have HP:=V (show ew 1 fp (sg FX w) (.slice ap t.params.length cp) t.params by rw [<- hpe];exact hit.1.1);have HR:=V (show ew 1 fp (sg FX w) (.slice ar t.results.length cr) t.results by rw [<- hre];exact hit.1.2);have QZ:=h.km.lt;rw [iq]at hbt;clear Od hit hpe hre h0;obtain⟨b,off,ci,h1,hci,hcim,Ml,LN⟩:=ew.at h.is.2.1 hx;obtain⟨af,cf,h2,Qk,hcfm⟩:=h.is.2.2.1.sl;have x1:w.cell? ⟨X,1,none⟩=some (.slice (some ⟨b,off,none⟩) m.imports.length ci):=by rw [<- h1];exact h.km.cell 1
 have x2:w.cell? ⟨X,2,none⟩=some (.slice af m.funcs.length cf):=by rw [<- h2];exact h.km.cell 2
 have y0:w.cell? ⟨b,off+i*3+2,none⟩=some (.int .i64 (ti:Int)):=by
  have:=LN 2 _ rfl;rw [<- hti];exact this
 have hS:vK X b (off+i*3+2) bt MK ti (.slice (some ⟨bt,MK,none⟩) m.types.length Pz) (.slice (some ⟨b,off,none⟩) m.imports.length ci) (.slice af m.funcs.length cf) (.slice ap t.params.length cp) (.slice ar t.results.length cr) (ti:Int) w:=⟨x0,x1,x2,y0,y1,y2⟩;have HN:=V (show X < w.heap.size/\b < w.heap.size/\bt < w.heap.size from⟨QZ,Ml,hbt⟩);have HIM:=V (show nw m (i:Int)=true by simp [nw];omega);have f1:decide (((i:Nat):Int) < 0)=false:=aq (by omega);have f2:decide ((m.imports.length:Int)+(m.funcs.length:Int) <=(i:Int))=false:=aq (by omega);have f3:decide (m.imports.length+m.funcs.length <=i)=false:=aq (by omega);clear x0 x1 x2 y0 y1 y2 LN h1 h2 hx ht hti Ml QZ hbt;have LQ:=(an w.heap.size w).alloc (ag _) (.cells #[.slice none 0 0, .slice none 0 0] 109);have HX:=V (eP.new w #[.slice none 0 0, .slice none 0 0] 109).drew;have HB:=V LQ.drew;have HI:=V (mU (w.alloc (.cells #[.slice none 0 0, .slice none 0 0] 109)).drew FX X iv m (h.below LQ.drew) ((i:Nat):Int));have hS1:=hS.keeps (ee.eh (S:=fun _=>False) LQ.drew) (fun _ h=>h.elim);clear LQ hS h;go_enter func41,ntmps41;go_wp2_with fail;refine eu (vK X b (off+i*3+2) bt MK ti (.slice (some ⟨bt,MK,none⟩) m.types.length Pz) (.slice (some ⟨b,off,none⟩) m.imports.length ci) (.slice af m.funcs.length cf) (.slice ap t.params.length cp) (.slice ar t.results.length cr) (ti:Int)) (up 0 23 []) (by kernel_rfl) (by kernel_rfl) hS1 ?_;iterate 23 (first | (apply sk rfl rfl;simp only [pt]) | (apply ef rfl rfl rfl;·(rintro w' ⟨t0,t1,t2,t3,t4,t5⟩;go_wp2;exact⟨rfl,rfl,rfl⟩)))
 refine eV ?_;refine aD ?_;generalize(w.alloc (.cells #[.slice none 0 0, .slice none 0 0] 109)).drew=w1 at HX HB HI hS1⊢;go_wp2_with fail;refine(HI.out).mono ?_;rintro e w2 ⟨rfl,hb⟩;rw [HIM.out];replace HX:=V (HX.out.below hb HX.out.lt);replace HB:=V (HB.out.trans (hb.mono HB.out.size));have Rl:vK X b (off+i*3+2) bt MK ti (.slice (some ⟨bt,MK,none⟩) m.types.length Pz) (.slice (some ⟨b,off,none⟩) m.imports.length ci) (.slice af m.funcs.length cf) (.slice ap t.params.length cp) (.slice ar t.results.length cr) (ti:Int) w2.drew:=(hS1.keeps (ee.eh (S:=fun _=>False) hb) (fun _ h=>h.elim)).keeps (ee.eh (S:=fun _=>False) (an _ _).drew) (fun _ h=>h.elim);have HXD:=V HX.out.drew;have Qq:=V HB.out.drew;clear hb hS1 HI f1 f2 f3;go_wp2_with fail;refine eu (vK X b (off+i*3+2) bt MK ti (.slice (some ⟨bt,MK,none⟩) m.types.length Pz) (.slice (some ⟨b,off,none⟩) m.imports.length ci) (.slice af m.funcs.length cf) (.slice ap t.params.length cp) (.slice ar t.results.length cr) (ti:Int)) (up 0 16 ((16,false)::(17,true)::[])) (by kernel_rfl) (by kernel_rfl) Rl ?_;generalize w2.drew=w3 at HXD Qq Rl⊢;iterate 16 (first | (apply sk rfl rfl;simp only [pt]) | (apply ef rfl rfl rfl;·(rintro w' ⟨t0,t1,t2,t3,t4,t5⟩;go_wp2;exact⟨rfl,rfl,rfl⟩)))
 refine eo rfl rfl ?_;obtain⟨x0,x1,z0,z1⟩:=HXD.out.two;go_wp2_with fail;have Lt:=fN w3 w.heap.size (.slice ap t.params.length cp) (.slice ar t.results.length cr);refine⟨Rl.keeps Lt (fun g hg=> .inr (by have:=HN.out;omega)),?_⟩;have OQ:=HXD.out.nx (.slice ap t.params.length cp) (.slice ar t.results.length cr);have HL:=V OQ.ln;have NQ:=V (Qq.out.trans (Lt.below Qq.out.size (fun i hi=>by omega)));clear Lt OQ x0 x1 z0 z1 Rl;iterate 1 (first | (apply sk rfl rfl;simp only [pt]) | (apply ef rfl rfl rfl;·(rintro w' ⟨t0,t1,t2,t3,t4,t5⟩;go_wp2;exact⟨rfl,rfl,rfl⟩)))
 refine eV ?_;refine aD ?_;go_wp2_with fail;refine aN (fu rfl _ _ rfl HL.out) rfl ?_;exact⟨_,_,rfl,HP.out.ext (jX NQ.out),HR.out.ext (jX NQ.out),NQ.out⟩
theorem Fq (w:World) (FX:Nat ->Bool) (X:Nat) (iv:qg) (m:eI) (h:ju w FX X iv m) (i ti:Nat) (t:gN) (hx:m.funcs[i]?=some (ti:Int)) (ht:m.types[ti]?=some t) (f:Int) (hf:f=((m.imports.length+i:Nat):Int)) (hk:m.imports.length+m.funcs.length <=100000):
  Calls prog 41 #[.pointer (some ⟨X,0,none⟩), .int .i64 f] w (Bm FX t w):=by
 subst hf;have hil:=(aM.1 hx).1;obtain⟨bt,MK,Pz,ut,h0,hcapt,hcmt,hbt,Od,hit⟩:=et.at h.mod.1 ht;obtain⟨ap,cp,hpe,-,-⟩:=hit.1.1.sl;obtain⟨ar,cr,hre,-,-⟩:=hit.1.2.sl;have htl:=(aM.1 ht).1;have x0:w.cell? ⟨X,0,none⟩=some (.slice (some ⟨bt,MK,none⟩) m.types.length Pz):=by rw [<- h0];exact h.km.cell 0
 have y1:w.cell? ⟨bt,MK+ti*2,none⟩=some (.slice ap t.params.length cp):=by rw [<- hpe];exact(gg (Od 0 _ rfl)).2
 have y2:w.cell? ⟨bt,MK+ti*2+1,none⟩=some (.slice ar t.results.length cr):=by rw [<- hre];exact(gg (Od 1 _ rfl)).2
 have HP:=V (show ew 1 fp (sg FX w) (.slice ap t.params.length cp) t.params by rw [<- hpe];exact hit.1.1);have HR:=V (show ew 1 fp (sg FX w) (.slice ar t.results.length cr) t.results by rw [<- hre];exact hit.1.2);have QZ:=h.km.lt;rw [iq]at hbt;clear Od hit hpe hre h0;obtain⟨b,off,cf,h2,Qk,hcfm,Ml,LN⟩:=ew.at h.is.2.2.1 hx;obtain⟨ai,ci,h1,hci,hcim⟩:=h.is.2.1.sl;have x1:w.cell? ⟨X,1,none⟩=some (.slice ai m.imports.length ci):=by rw [<- h1];exact h.km.cell 1
 have x2:w.cell? ⟨X,2,none⟩=some (.slice (some ⟨b,off,none⟩) m.funcs.length cf):=by rw [<- h2];exact h.km.cell 2
 have y0:w.cell? ⟨b,off+i,none⟩=some (.int .i64 (ti:Int)):=by
  have:=LN 0 _ rfl
  rwa [bq,aK]at this
 have hS:vK X b (off+i) bt MK ti (.slice (some ⟨bt,MK,none⟩) m.types.length Pz) (.slice ai m.imports.length ci) (.slice (some ⟨b,off,none⟩) m.funcs.length cf) (.slice ap t.params.length cp) (.slice ar t.results.length cr) (ti:Int) w:=⟨x0,x1,x2,y0,y1,y2⟩;have HN:=V (show X < w.heap.size/\b < w.heap.size/\bt < w.heap.size from⟨QZ,Ml,hbt⟩);have HIM:=V (show nw m ((m.imports.length+i:Nat):Int)=false by simp [nw];omega);have f1:decide (((m.imports.length+i:Nat):Int) < 0)=false:=aq (by omega);have f2:decide ((m.imports.length:Int)+(m.funcs.length:Int) <=(m.imports.length:Int)+(i:Int))=false:=aq (by omega);have f3:decide (m.imports.length+m.funcs.length <=m.imports.length+i)=false:=aq (by omega);clear x0 x1 x2 y0 y1 y2 LN h1 h2 hx ht Ml QZ hbt;have LQ:=(an w.heap.size w).alloc (ag _) (.cells #[.slice none 0 0, .slice none 0 0] 109);have HX:=V (eP.new w #[.slice none 0 0, .slice none 0 0] 109).drew;have HB:=V LQ.drew;have HI:=V (mU (w.alloc (.cells #[.slice none 0 0, .slice none 0 0] 109)).drew FX X iv m (h.below LQ.drew) ((m.imports.length+i:Nat):Int));have hS1:=hS.keeps (ee.eh (S:=fun _=>False) LQ.drew) (fun _ h=>h.elim);clear LQ hS h;go_enter func41,ntmps41;go_wp2_with fail;refine eu (vK X b (off+i) bt MK ti (.slice (some ⟨bt,MK,none⟩) m.types.length Pz) (.slice ai m.imports.length ci) (.slice (some ⟨b,off,none⟩) m.funcs.length cf) (.slice ap t.params.length cp) (.slice ar t.results.length cr) (ti:Int)) (up 0 23 []) (by kernel_rfl) (by kernel_rfl) hS1 ?_;iterate 23 (first | (apply sk rfl rfl;simp only [pt]) | (apply ef rfl rfl rfl;·(rintro w' ⟨t0,t1,t2,t3,t4,t5⟩;go_wp2;exact⟨rfl,rfl,rfl⟩)))
 refine eV ?_;refine aD ?_;generalize(w.alloc (.cells #[.slice none 0 0, .slice none 0 0] 109)).drew=w1 at HX HB HI hS1⊢;go_wp2_with fail;refine(HI.out).mono ?_;rintro e w2 ⟨rfl,hb⟩;rw [HIM.out];replace HX:=V (HX.out.below hb HX.out.lt);replace HB:=V (HB.out.trans (hb.mono HB.out.size));have Rl:vK X b (off+i) bt MK ti (.slice (some ⟨bt,MK,none⟩) m.types.length Pz) (.slice ai m.imports.length ci) (.slice (some ⟨b,off,none⟩) m.funcs.length cf) (.slice ap t.params.length cp) (.slice ar t.results.length cr) (ti:Int) w2.drew:=(hS1.keeps (ee.eh (S:=fun _=>False) hb) (fun _ h=>h.elim)).keeps (ee.eh (S:=fun _=>False) (an _ _).drew) (fun _ h=>h.elim);have HXD:=V HX.out.drew;have Qq:=V HB.out.drew;clear hb hS1 HI f1 f2 f3;go_wp2_with fail;refine eu (vK X b (off+i) bt MK ti (.slice (some ⟨bt,MK,none⟩) m.types.length Pz) (.slice ai m.imports.length ci) (.slice (some ⟨b,off,none⟩) m.funcs.length cf) (.slice ap t.params.length cp) (.slice ar t.results.length cr) (ti:Int)) (up 0 22 ((22,false)::(23,true)::[])) (by kernel_rfl) (by kernel_rfl) Rl ?_;generalize w2.drew=w3 at HXD Qq Rl⊢;iterate 22 (first | (apply sk rfl rfl;simp only [pt]) | (apply ef rfl rfl rfl;·(rintro w' ⟨t0,t1,t2,t3,t4,t5⟩;go_wp2;exact⟨rfl,rfl,rfl⟩)))
 refine eo rfl rfl ?_;obtain⟨x0,x1,z0,z1⟩:=HXD.out.two;go_wp2_with fail;have Lt:=fN w3 w.heap.size (.slice ap t.params.length cp) (.slice ar t.results.length cr);refine⟨Rl.keeps Lt (fun g hg=> .inr (by have:=HN.out;omega)),?_⟩;have OQ:=HXD.out.nx (.slice ap t.params.length cp) (.slice ar t.results.length cr);have HL:=V OQ.ln;have NQ:=V (Qq.out.trans (Lt.below Qq.out.size (fun i hi=>by omega)));clear Lt OQ x0 x1 z0 z1 Rl;iterate 1 (first | (apply sk rfl rfl;simp only [pt]) | (apply ef rfl rfl rfl;·(rintro w' ⟨t0,t1,t2,t3,t4,t5⟩;go_wp2;exact⟨rfl,rfl,rfl⟩)))
 refine eV ?_;refine aD ?_;go_wp2_with fail;refine aN (fu rfl _ _ rfl HL.out) rfl ?_;exact⟨_,_,rfl,HP.out.ext (jX NQ.out),HR.out.ext (jX NQ.out),NQ.out⟩
end Go.Proofs.YthbjdhjppbcneaaGreatDoor
