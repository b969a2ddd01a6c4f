import Derived.Test.YthbjdhjppbcneaaGreatDoorFramesJ11
import Derived.Maps.OwnSet
namespace Go.Proofs.YthbjdhjppbcneaaGreatDoor
set_option maxRecDepth 100000
set_option maxHeartbeats 20000000
open Go.RowKit Tryz
open Lib renaming hid->V
set_option linter.all false
structure yL where
 table:List Int
 globals:List fa
def nO (w:World) (B X:Nat) (e:yL):Prop:=∃v v',eG w X #[v,v'] 147/\dT 3 1 fb w B v e.table/\dT 42 2 gb w B v' e.globals
def gM (m:ez):yL:=⟨if m.table.has=true then List.replicate m.table.min.toNat (-1)else [],m.globals.map ja.init⟩
def FP (m:ez) (w:World) (e:Ending) (w':World):Prop:=∃X,e= .returned (.pointer (some ⟨X,0,none⟩))/\nO w' w.heap.size X (gM m)/\w.heap.size <=X/\Below w.heap.size w w'
theorem xt (m:ez) (u:eD) (w:World) (hm:ep w u m) (ht:m.table.has=true ->0 <=m.table.min/\m.table.min <=1000) (hg:m.globals.length <=1000):Calls prog 29 #[.agg (u.cells m)] w (FP m w):=by
 have HI:=V hm;obtain⟨a0,c0,a1,c1,a2,c2,a3,c3,a4,c4,a5,c5,a6,c6,a7,c7,rfl⟩:=ep.open hm;clear hm;simp only [eD.cells];have KW:=(an w.heap.size w).alloc (ag _) (.cells #[.slice a0 m.types.length c0, .slice a1 m.imports.length c1, .slice a2 m.funcs.length c2, .bool m.table.has, .int .i64 m.table.min, .int .i64 m.table.max, .bool m.mem.has, .int .i64 m.mem.min, .int .i64 m.mem.max, .slice a3 m.globals.length c3, .slice a4 m.ea.length c4, .slice a5 m.elems.length c5, .slice a6 m.ej.length c6, .slice a7 m.eC.length c7] 62);have HS:=V (KW.alloc (by rw [aE];omega) (.cells #[.slice none 0 0, .slice none 0 0] 147));have HX:=V ((eG.new w #[.slice a0 m.types.length c0, .slice a1 m.imports.length c1, .slice a2 m.funcs.length c2, .bool m.table.has, .int .i64 m.table.min, .int .i64 m.table.max, .bool m.mem.has, .int .i64 m.mem.min, .int .i64 m.mem.max, .slice a3 m.globals.length c3, .slice a4 m.ea.length c4, .slice a5 m.elems.length c5, .slice a6 m.ej.length c6, .slice a7 m.eC.length c7] 62).alloc (.cells #[.slice none 0 0, .slice none 0 0] 147));have hy:=eG.new (w.alloc (.cells #[.slice a0 m.types.length c0, .slice a1 m.imports.length c1, .slice a2 m.funcs.length c2, .bool m.table.has, .int .i64 m.table.min, .int .i64 m.table.max, .bool m.mem.has, .int .i64 m.mem.min, .int .i64 m.mem.max, .slice a3 m.globals.length c3, .slice a4 m.ea.length c4, .slice a5 m.elems.length c5, .slice a6 m.ej.length c6, .slice a7 m.eC.length c7] 62)) #[.slice none 0 0, .slice none 0 0] 147;rw [aE]at hy;have HY:=V hy;clear KW hy;obtain⟨has,hhas⟩:∃has,m.table.has=has:=⟨_,rfl⟩;rw [hhas]at HS HX HY ht⊢;cases has
 ·go_enter func29,ntmps29
  go_wp2_with fail;obtain⟨w5,O7⟩:∃w5,w5=(w.alloc (.cells #[.slice a0 m.types.length c0, .slice a1 m.imports.length c1, .slice a2 m.funcs.length c2, .bool false, .int .i64 m.table.min, .int .i64 m.table.max, .bool m.mem.has, .int .i64 m.mem.min, .int .i64 m.mem.max, .slice a3 m.globals.length c3, .slice a4 m.ea.length c4, .slice a5 m.elems.length c5, .slice a6 m.ej.length c6, .slice a7 m.eC.length c7] 62)).alloc (.cells #[.slice none 0 0, .slice none 0 0] 147):=⟨_,rfl⟩;rw [<- O7]at HS HX HY⊢;clear O7;have HP:=V (show nO w5 w.heap.size (w.heap.size+1) ⟨[],[]⟩from⟨_,_,HY.out,dT.nil _ _,dT.nil _ _⟩);have HT:=V (show gM m=⟨[],m.globals.map ja.init⟩by unfold gM;rw [hhas];rfl);clear HX HY;refine eB (fun a' w'=>∃(i:Nat),a'=fr (gs a' 0 3 (.pointer (some ⟨w.heap.size+1,0,none⟩)::gs a' 4 17 (.slice a3 m.globals.length c3:: .int .i64 m.globals.length:: .int .i64 i::gs a' 24 16 [])))/\i <=m.globals.length/\nO w' w.heap.size (w.heap.size+1) ⟨[],(m.globals.take i).map ja.init⟩/\Below w.heap.size w w') (fun a' _=>(m.globals.length - (intOf (a'.tmps.getD 23 undef)).toNat)) ?_ ?_
  ·exact⟨0,rfl,bK _,HP.out,HS.out⟩
  ·skip
   rintro R a' w1 ⟨i,Kw,hJ⟩ HR;dsimp only [fr,gs]at Kw;generalize slot a'=f at Kw;subst Kw;obtain⟨hi,Qs,hb⟩:=hJ;have Qt:=V Qs;have HB:=V hb;clear Qs hb;by_cases q:i < m.globals.length;rotate_left
   ·obtain rfl:i=m.globals.length:=by omega
    go_wp2_with fail;go_ret;exact⟨_,rfl,by rw [HT.out];have:=Qt.out;rwa [aU]at this,by omega,HB.out⟩
   obtain⟨x,hx⟩:∃x,m.globals[i]?=some x:=⟨_,aq q⟩;have HXI:=V hx;obtain⟨_,_,hv,_,_,Kt⟩:=HI.out.2.2.2.1.ext (Ext.dW HB.out);injection hv with e1 e2 e3;subst e1;obtain⟨b,off,rfl,-,KV⟩:=Kt i x hx;have y0:=KV 0 _ rfl;have y1:=KV 1 _ rfl;have y2:=KV 2 _ rfl;rw [aL]at y0;obtain⟨gv,⟨gk,gn⟩⟩:=x;obtain⟨v,v',KP,NH,KQ⟩:=Qt.out;have QP:((m.globals.take i).map ja.init).length=i:=by rw [bN,aS];omega
   obtain⟨av,cv,LV,-,-⟩:=KQ.slice;rw [QP]at LV;subst LV;have KJ:=(an w1.heap.size w1).alloc (ag _) (.cells #[.bool gv, .int .i64 gk, .int .i64 gn] 120);have HG:=V (eG.new w1 #[.bool gv, .int .i64 gk, .int .i64 gn] 120).drew;have LO:=V (KP.below KJ KP.lt).drew;have Mq:=V (show dT _ _ _ (w1.alloc (.cells #[.bool gv, .int .i64 gk, .int .i64 gn] 120)).drew _ _ _ from NH.below KJ.drew);have Lq:=V (show dT _ _ _ (w1.alloc (.cells #[.bool gv, .int .i64 gk, .int .i64 gn] 120)).drew _ _ _ from KQ.below KJ.drew);have K6:=V (HB.out.trans (KJ.mono HB.out.size)).drew;have s1:World.cell? _ ⟨w.heap.size+1,1,none⟩=some (.slice av i cv):=LO.out.cell 1;have s2:World.cell? _ ⟨w1.heap.size,1,none⟩=some (.int .i64 gk):=HG.out.cell 1;have s3:World.cell? _ ⟨w1.heap.size,2,none⟩=some (.int .i64 gn):=HG.out.cell 2;clear e2 e3 Kt KV hx KP NH KQ KJ;go_wp2_with fail;refine eO (fun w'=>w'.cell? ⟨w.heap.size+1,1,none⟩=some (.slice av i cv)/\w'.cell? ⟨w1.heap.size,1,none⟩=some (.int .i64 gk)/\w'.cell? ⟨w1.heap.size,2,none⟩=some (.int .i64 gn)) 11 (up 0 7 ((7,false)::(8,false)::(9,true)::(10,true)::[])) (by kernel_rfl) (by kernel_rfl) ⟨s1,s2,s3⟩ ?_;clear s1 s2 s3 y0 y1 y2;generalize(w1.alloc (.cells #[.bool gv, .int .i64 gk, .int .i64 gn] 120)).drew=w2 at HG LO Mq Lq K6⊢;iterate 7 (first | (apply sk rfl rfl;simp only [pt]) | (apply dV rfl rfl rfl;·(rintro w' ⟨t0,t1,t2⟩;go_wp2;exact⟨rfl,rfl,rfl⟩)))
   refine ed rfl rfl ?_;go_wp2_with fail;refine⟨⟨(LO.out.alloc _).cell 1,(HG.out.alloc _).cell 1,(HG.out.alloc _).cell 2⟩,?_⟩;refine ed rfl rfl ?_;go_wp2_with (first | (at_builtin;refine eT w2 rfl _ _ 30 rfl _ 16 (by kernel_rfl) kb rfl (by decide) (by decide) w.heap.size (.slice av i cv) ((m.globals.take i).map ja.init) rfl Lq.out (⟨gk,gn⟩:fa) _ rfl rfl (lT _) rfl (by rw [QP];omega) K6.out.size ?_));intro v2 w3 LD K7 Md;obtain⟨a3',c3',LV,-,-⟩:=LD.slice;replace LV:v2= .slice a3' (i+1) c3':=by rw [LV];congr 1;simp;omega
   subst LV;have hnb:=dT.gA Lq.out LO.out (by decide);have hng:=dT.gA Lq.out HG.out (by decide);replace LO:=V (LO.out.keeps K7 (fun h=>hnb _ h rfl));replace HG:=V (HG.out.keeps K7 (fun h=>hng _ h rfl));replace Mq:=V (Mq.out.keeps K7 (fun i hi=>dT.ne Mq.out Lq.out (by decide) i hi));replace K6:=V (K6.out.trans (K7.below K6.out.size (fun i hi=>(et Lq.out hi).1)));replace Lq:=V LD;clear hnb hng K7 Md LD;go_wp2_with fail;refine⟨⟨LO.out.cell 1,HG.out.cell 1,HG.out.cell 2⟩,?_⟩;iterate 2 (first | (apply sk rfl rfl;simp only [pt]) | (apply dV rfl rfl rfl;·(rintro w' ⟨t0,t1,t2⟩;go_wp2;exact⟨rfl,rfl,rfl⟩)))
   refine fG rfl rfl ?_;have c1:w3.cell? ⟨w.heap.size+1,1,none⟩=some (.slice av i cv):=LO.out.cell 1;have z1:=LO.out.free 1;go_wp2_with fail;refine⟨trivial,?_⟩;refine aD ?_;clear c1 z1;go_wp2_with fail;have Kz:=eu w3 (w.heap.size+1) 1 (.slice a3' (i+1) c3');refine HR.out _ _ ⟨i+1,rfl,by omega,⟨_,_,LO.out.set 1 _,Mq.out.keeps Kz (dT.gA Mq.out LO.out (by decide)),?_⟩,K6.out.trans (Kz.below K6.out.size (fun i hi=>by omega))⟩ ?_
   ·rw [aQ,HXI.out,cn,List.map_take]
    exact Lq.out.keeps Kz (dT.gA Lq.out LO.out (by decide))
   ·simp [intOf]
    omega
 ·obtain⟨n,hn⟩:∃n:Nat,m.table.min=n:=⟨m.table.min.toNat,by have:=(ht rfl).1;omega⟩
  have hn2:n <=1000:=by have:=(ht rfl).2;omega
  rw [hn]at HS HX HY⊢;rcases aZ n with hz | Pj
  ·subst hz
   have e0:((0:Nat):Int)=0:=rfl;rw [e0]at HS HX HY⊢;go_enter func29,ntmps29;go_wp2_with fail;obtain⟨wA,O7⟩:∃wA,wA=(w.alloc (.cells #[.slice a0 m.types.length c0, .slice a1 m.imports.length c1, .slice a2 m.funcs.length c2, .bool true, .int .i64 0, .int .i64 m.table.max, .bool m.mem.has, .int .i64 m.mem.min, .int .i64 m.mem.max, .slice a3 m.globals.length c3, .slice a4 m.ea.length c4, .slice a5 m.elems.length c5, .slice a6 m.ej.length c6, .slice a7 m.eC.length c7] 62)).alloc (.cells #[.slice none 0 0, .slice none 0 0] 147):=⟨_,rfl⟩;rw [<- O7]at HS HX HY⊢;have hAS:wA.heap.size=w.heap.size+2:=by rw [O7];simp
   clear O7;have K9:=(an wA.heap.size wA).alloc (ag _) (.cells #[.int .i64 (-1)] 3);have LD:dT 3 1 fb (wA.alloc (.cells #[.int .i64 (-1)] 3)) wA.heap.size (.slice (some ⟨wA.heap.size,0,none⟩) 1 1) [-1]:=⟨by simp [fb], .inr ⟨wA.heap.size,1,_,rfl,ag _,eG.new wA _ _,by simp,by simp [maxLen],by simp,by simp [fb]⟩⟩;have hi3:=LD.fy fw;rw [hAS]at hi3;refine(qf _ 1 (-1) 0 (by omega) _ hi3).mono ?_;rintro e w4 ⟨g,rfl,ho,hb⟩;have Mr:=K9.trans (hb.mono K9.size);have HY4:=V (HY.out.below Mr HY.out.lt);replace HX:=V (HX.out.below Mr HX.out.lt);replace HS:=V (HS.out.trans (Mr.mono HS.out.size));have QY:wA.heap.size <=(wA.alloc (.cells #[.int .i64 (-1)] 3)).heap.size:=K9.size;have HO:=V (ho.lower (show w.heap.size <=_ by omega));clear hb K9 Mr ho LD hi3 QY;have y0:=HY4.out.two.1;have z0:=HY4.out.two.2.2.1;obtain⟨g0,g1,g2,g3,g4,g5,g6,g7,g8,g9,Ld,Le,Lf,Lg⟩:=HX.out.mod;go_wp2_with fail;clear g0 g1 g2 g3 g4 g5 g6 g7 g8 g9 Ld Le Lf Lg y0 z0;have Kz:=eu w4 (w.heap.size+1) 0 (.slice (some ⟨g,0,none⟩) 0 0);replace HS:=V (HS.out.trans (Kz.below HS.out.size (fun i hi=>by omega)));have HP:=V (show nO _ w.heap.size (w.heap.size+1) ⟨List.replicate 0 (-1),[]⟩from⟨_,_,HY4.out.set 0 (.slice (some ⟨g,0,none⟩) 0 0),HO.out.keeps Kz (dT.gA HO.out HY4.out (by decide)),dT.nil _ _⟩);have HT:=V (show gM m=⟨List.replicate 0 (-1),m.globals.map ja.init⟩by unfold gM;rw [hhas,hn];rfl);clear Kz HO HY4 HX;generalize w4.setCell ⟨w.heap.size+1,0,none⟩ (.slice (some ⟨g,0,none⟩) 0 0)=w5 at HS HP⊢;refine eB (fun a' w'=>∃(i:Nat),a'=fr (gs a' 0 3 (.pointer (some ⟨w.heap.size+1,0,none⟩)::gs a' 4 17 (.slice a3 m.globals.length c3:: .int .i64 m.globals.length:: .int .i64 i::gs a' 24 16 [])))/\i <=m.globals.length/\nO w' w.heap.size (w.heap.size+1) ⟨List.replicate 0 (-1),(m.globals.take i).map ja.init⟩/\Below w.heap.size w w') (fun a' _=>(m.globals.length - (intOf (a'.tmps.getD 23 undef)).toNat)) ?_ ?_
   ·exact⟨0,rfl,bK _,HP.out,HS.out⟩
   ·skip
    rintro R a' w1 ⟨i,Kw,hJ⟩ HR;dsimp only [fr,gs]at Kw;generalize slot a'=f at Kw;subst Kw;obtain⟨hi,Qs,hb⟩:=hJ;have Qt:=V Qs;have HB:=V hb;clear Qs hb;by_cases q:i < m.globals.length;rotate_left
    ·obtain rfl:i=m.globals.length:=by omega
     go_wp2_with fail;go_ret;exact⟨_,rfl,by rw [HT.out];have:=Qt.out;rwa [aU]at this,by omega,HB.out⟩
    obtain⟨x,hx⟩:∃x,m.globals[i]?=some x:=⟨_,aq q⟩;have HXI:=V hx;obtain⟨_,_,hv,_,_,Kt⟩:=HI.out.2.2.2.1.ext (Ext.dW HB.out);injection hv with e1 e2 e3;subst e1;obtain⟨b,off,rfl,-,KV⟩:=Kt i x hx;have y0:=KV 0 _ rfl;have y1:=KV 1 _ rfl;have y2:=KV 2 _ rfl;rw [aL]at y0;obtain⟨gv,⟨gk,gn⟩⟩:=x;obtain⟨v,v',KP,NH,KQ⟩:=Qt.out;have QP:((m.globals.take i).map ja.init).length=i:=by rw [bN,aS];omega
    obtain⟨av,cv,LV,-,-⟩:=KQ.slice;rw [QP]at LV;subst LV;have KJ:=(an w1.heap.size w1).alloc (ag _) (.cells #[.bool gv, .int .i64 gk, .int .i64 gn] 120);have HG:=V (eG.new w1 #[.bool gv, .int .i64 gk, .int .i64 gn] 120).drew;have LO:=V (KP.below KJ KP.lt).drew;have Mq:=V (show dT _ _ _ (w1.alloc (.cells #[.bool gv, .int .i64 gk, .int .i64 gn] 120)).drew _ _ _ from NH.below KJ.drew);have Lq:=V (show dT _ _ _ (w1.alloc (.cells #[.bool gv, .int .i64 gk, .int .i64 gn] 120)).drew _ _ _ from KQ.below KJ.drew);have K6:=V (HB.out.trans (KJ.mono HB.out.size)).drew;have s1:World.cell? _ ⟨w.heap.size+1,1,none⟩=some (.slice av i cv):=LO.out.cell 1;have s2:World.cell? _ ⟨w1.heap.size,1,none⟩=some (.int .i64 gk):=HG.out.cell 1;have s3:World.cell? _ ⟨w1.heap.size,2,none⟩=some (.int .i64 gn):=HG.out.cell 2;clear e2 e3 Kt KV hx KP NH KQ KJ;go_wp2_with fail;refine eO (fun w'=>w'.cell? ⟨w.heap.size+1,1,none⟩=some (.slice av i cv)/\w'.cell? ⟨w1.heap.size,1,none⟩=some (.int .i64 gk)/\w'.cell? ⟨w1.heap.size,2,none⟩=some (.int .i64 gn)) 11 (up 0 7 ((7,false)::(8,false)::(9,true)::(10,true)::[])) (by kernel_rfl) (by kernel_rfl) ⟨s1,s2,s3⟩ ?_;clear s1 s2 s3 y0 y1 y2;generalize(w1.alloc (.cells #[.bool gv, .int .i64 gk, .int .i64 gn] 120)).drew=w2 at HG LO Mq Lq K6⊢;iterate 7 (first | (apply sk rfl rfl;simp only [pt]) | (apply dV rfl rfl rfl;·(rintro w' ⟨t0,t1,t2⟩;go_wp2;exact⟨rfl,rfl,rfl⟩)))
    refine ed rfl rfl ?_;go_wp2_with fail;refine⟨⟨(LO.out.alloc _).cell 1,(HG.out.alloc _).cell 1,(HG.out.alloc _).cell 2⟩,?_⟩;refine ed rfl rfl ?_;go_wp2_with (first | (at_builtin;refine eT w2 rfl _ _ 30 rfl _ 16 (by kernel_rfl) kb rfl (by decide) (by decide) w.heap.size (.slice av i cv) ((m.globals.take i).map ja.init) rfl Lq.out (⟨gk,gn⟩:fa) _ rfl rfl (lT _) rfl (by rw [QP];omega) K6.out.size ?_));intro v2 w3 LD K7 Md;obtain⟨a3',c3',LV,-,-⟩:=LD.slice;replace LV:v2= .slice a3' (i+1) c3':=by rw [LV];congr 1;simp;omega
    subst LV;have hnb:=dT.gA Lq.out LO.out (by decide);have hng:=dT.gA Lq.out HG.out (by decide);replace LO:=V (LO.out.keeps K7 (fun h=>hnb _ h rfl));replace HG:=V (HG.out.keeps K7 (fun h=>hng _ h rfl));replace Mq:=V (Mq.out.keeps K7 (fun i hi=>dT.ne Mq.out Lq.out (by decide) i hi));replace K6:=V (K6.out.trans (K7.below K6.out.size (fun i hi=>(et Lq.out hi).1)));replace Lq:=V LD;clear hnb hng K7 Md LD;go_wp2_with fail;refine⟨⟨LO.out.cell 1,HG.out.cell 1,HG.out.cell 2⟩,?_⟩;iterate 2 (first | (apply sk rfl rfl;simp only [pt]) | (apply dV rfl rfl rfl;·(rintro w' ⟨t0,t1,t2⟩;go_wp2;exact⟨rfl,rfl,rfl⟩)))
    refine fG rfl rfl ?_;have c1:w3.cell? ⟨w.heap.size+1,1,none⟩=some (.slice av i cv):=LO.out.cell 1;have z1:=LO.out.free 1;go_wp2_with fail;refine⟨trivial,?_⟩;refine aD ?_;clear c1 z1;go_wp2_with fail;have Kz:=eu w3 (w.heap.size+1) 1 (.slice a3' (i+1) c3');refine HR.out _ _ ⟨i+1,rfl,by omega,⟨_,_,LO.out.set 1 _,Mq.out.keeps Kz (dT.gA Mq.out LO.out (by decide)),?_⟩,K6.out.trans (Kz.below K6.out.size (fun i hi=>by omega))⟩ ?_
    ·rw [aQ,HXI.out,cn,List.map_take]
     exact Lq.out.keeps Kz (dT.gA Lq.out LO.out (by decide))
    ·simp [intOf]
     omega
  ·skip
   go_enter func29,ntmps29;go_wp2_with fail;obtain⟨wA,O7⟩:∃wA,wA=(w.alloc (.cells #[.slice a0 m.types.length c0, .slice a1 m.imports.length c1, .slice a2 m.funcs.length c2, .bool true, .int .i64 n, .int .i64 m.table.max, .bool m.mem.has, .int .i64 m.mem.min, .int .i64 m.mem.max, .slice a3 m.globals.length c3, .slice a4 m.ea.length c4, .slice a5 m.elems.length c5, .slice a6 m.ej.length c6, .slice a7 m.eC.length c7] 62)).alloc (.cells #[.slice none 0 0, .slice none 0 0] 147):=⟨_,rfl⟩;rw [<- O7]at HS HX HY⊢;have hAS:wA.heap.size=w.heap.size+2:=by rw [O7];simp
   clear O7;have K9:=(an wA.heap.size wA).alloc (ag _) (.cells #[.int .i64 (-1)] 3);have LD:dT 3 1 fb (wA.alloc (.cells #[.int .i64 (-1)] 3)) wA.heap.size (.slice (some ⟨wA.heap.size,0,none⟩) 1 1) [-1]:=⟨by simp [fb], .inr ⟨wA.heap.size,1,_,rfl,ag _,eG.new wA _ _,by simp,by simp [maxLen],by simp,by simp [fb]⟩⟩;have hi3:=LD.fy fw;rw [hAS]at hi3;refine(qf _ 1 (-1) n (by omega) _ hi3).mono ?_;rintro e w4 ⟨g,rfl,ho,hb⟩;have Mr:=K9.trans (hb.mono K9.size);have HY4:=V (HY.out.below Mr HY.out.lt);replace HX:=V (HX.out.below Mr HX.out.lt);replace HS:=V (HS.out.trans (Mr.mono HS.out.size));have QY:wA.heap.size <=(wA.alloc (.cells #[.int .i64 (-1)] 3)).heap.size:=K9.size;have HO:=V (ho.lower (show w.heap.size <=_ by omega));clear hb K9 Mr ho LD hi3 QY;have y0:=HY4.out.two.1;have z0:=HY4.out.two.2.2.1;obtain⟨g0,g1,g2,g3,g4,g5,g6,g7,g8,g9,Ld,Le,Lf,Lg⟩:=HX.out.mod;go_wp2_with fail;clear g0 g1 g2 g3 g4 g5 g6 g7 g8 g9 Ld Le Lf Lg y0 z0;have Kz:=eu w4 (w.heap.size+1) 0 (.slice (some ⟨g,0,none⟩) n n);replace HS:=V (HS.out.trans (Kz.below HS.out.size (fun i hi=>by omega)));have HP:=V (show nO _ w.heap.size (w.heap.size+1) ⟨List.replicate n (-1),[]⟩from⟨_,_,HY4.out.set 0 (.slice (some ⟨g,0,none⟩) n n),HO.out.keeps Kz (dT.gA HO.out HY4.out (by decide)),dT.nil _ _⟩);have HT:=V (show gM m=⟨List.replicate n (-1),m.globals.map ja.init⟩by unfold gM;rw [hhas,hn];rfl);clear Kz HO HY4 HX;generalize w4.setCell ⟨w.heap.size+1,0,none⟩ (.slice (some ⟨g,0,none⟩) n n)=w5 at HS HP⊢;refine eB (fun a' w'=>∃(i:Nat),a'=fr (gs a' 0 3 (.pointer (some ⟨w.heap.size+1,0,none⟩)::gs a' 4 17 (.slice a3 m.globals.length c3:: .int .i64 m.globals.length:: .int .i64 i::gs a' 24 16 [])))/\i <=m.globals.length/\nO w' w.heap.size (w.heap.size+1) ⟨List.replicate n (-1),(m.globals.take i).map ja.init⟩/\Below w.heap.size w w') (fun a' _=>(m.globals.length - (intOf (a'.tmps.getD 23 undef)).toNat)) ?_ ?_
   ·exact⟨0,rfl,bK _,HP.out,HS.out⟩
   ·skip
    rintro R a' w1 ⟨i,Kw,hJ⟩ HR;dsimp only [fr,gs]at Kw;generalize slot a'=f at Kw;subst Kw;obtain⟨hi,Qs,hb⟩:=hJ;have Qt:=V Qs;have HB:=V hb;clear Qs hb;by_cases q:i < m.globals.length;rotate_left
    ·obtain rfl:i=m.globals.length:=by omega
     go_wp2_with fail;go_ret;exact⟨_,rfl,by rw [HT.out];have:=Qt.out;rwa [aU]at this,by omega,HB.out⟩
    obtain⟨x,hx⟩:∃x,m.globals[i]?=some x:=⟨_,aq q⟩;have HXI:=V hx;obtain⟨_,_,hv,_,_,Kt⟩:=HI.out.2.2.2.1.ext (Ext.dW HB.out);injection hv with e1 e2 e3;subst e1;obtain⟨b,off,rfl,-,KV⟩:=Kt i x hx;have y0:=KV 0 _ rfl;have y1:=KV 1 _ rfl;have y2:=KV 2 _ rfl;rw [aL]at y0;obtain⟨gv,⟨gk,gn⟩⟩:=x;obtain⟨v,v',KP,NH,KQ⟩:=Qt.out;have QP:((m.globals.take i).map ja.init).length=i:=by rw [bN,aS];omega
    obtain⟨av,cv,LV,-,-⟩:=KQ.slice;rw [QP]at LV;subst LV;have KJ:=(an w1.heap.size w1).alloc (ag _) (.cells #[.bool gv, .int .i64 gk, .int .i64 gn] 120);have HG:=V (eG.new w1 #[.bool gv, .int .i64 gk, .int .i64 gn] 120).drew;have LO:=V (KP.below KJ KP.lt).drew;have Mq:=V (show dT _ _ _ (w1.alloc (.cells #[.bool gv, .int .i64 gk, .int .i64 gn] 120)).drew _ _ _ from NH.below KJ.drew);have Lq:=V (show dT _ _ _ (w1.alloc (.cells #[.bool gv, .int .i64 gk, .int .i64 gn] 120)).drew _ _ _ from KQ.below KJ.drew);have K6:=V (HB.out.trans (KJ.mono HB.out.size)).drew;have s1:World.cell? _ ⟨w.heap.size+1,1,none⟩=some (.slice av i cv):=LO.out.cell 1;have s2:World.cell? _ ⟨w1.heap.size,1,none⟩=some (.int .i64 gk):=HG.out.cell 1;have s3:World.cell? _ ⟨w1.heap.size,2,none⟩=some (.int .i64 gn):=HG.out.cell 2;clear e2 e3 Kt KV hx KP NH KQ KJ;go_wp2_with fail;refine eO (fun w'=>w'.cell? ⟨w.heap.size+1,1,none⟩=some (.slice av i cv)/\w'.cell? ⟨w1.heap.size,1,none⟩=some (.int .i64 gk)/\w'.cell? ⟨w1.heap.size,2,none⟩=some (.int .i64 gn)) 11 (up 0 7 ((7,false)::(8,false)::(9,true)::(10,true)::[])) (by kernel_rfl) (by kernel_rfl) ⟨s1,s2,s3⟩ ?_;clear s1 s2 s3 y0 y1 y2;generalize(w1.alloc (.cells #[.bool gv, .int .i64 gk, .int .i64 gn] 120)).drew=w2 at HG LO Mq Lq K6⊢;iterate 7 (first | (apply sk rfl rfl;simp only [pt]) | (apply dV rfl rfl rfl;·(rintro w' ⟨t0,t1,t2⟩;go_wp2;exact⟨rfl,rfl,rfl⟩)))
    refine ed rfl rfl ?_;go_wp2_with fail;refine⟨⟨(LO.out.alloc _).cell 1,(HG.out.alloc _).cell 1,(HG.out.alloc _).cell 2⟩,?_⟩;refine ed rfl rfl ?_;go_wp2_with (first | (at_builtin;refine eT w2 rfl _ _ 30 rfl _ 16 (by kernel_rfl) kb rfl (by decide) (by decide) w.heap.size (.slice av i cv) ((m.globals.take i).map ja.init) rfl Lq.out (⟨gk,gn⟩:fa) _ rfl rfl (lT _) rfl (by rw [QP];omega) K6.out.size ?_));intro v2 w3 LD K7 Md;obtain⟨a3',c3',LV,-,-⟩:=LD.slice;replace LV:v2= .slice a3' (i+1) c3':=by rw [LV];congr 1;simp;omega
    subst LV;have hnb:=dT.gA Lq.out LO.out (by decide);have hng:=dT.gA Lq.out HG.out (by decide);replace LO:=V (LO.out.keeps K7 (fun h=>hnb _ h rfl));replace HG:=V (HG.out.keeps K7 (fun h=>hng _ h rfl));replace Mq:=V (Mq.out.keeps K7 (fun i hi=>dT.ne Mq.out Lq.out (by decide) i hi));replace K6:=V (K6.out.trans (K7.below K6.out.size (fun i hi=>(et Lq.out hi).1)));replace Lq:=V LD;clear hnb hng K7 Md LD;go_wp2_with fail;refine⟨⟨LO.out.cell 1,HG.out.cell 1,HG.out.cell 2⟩,?_⟩;iterate 2 (first | (apply sk rfl rfl;simp only [pt]) | (apply dV rfl rfl rfl;·(rintro w' ⟨t0,t1,t2⟩;go_wp2;exact⟨rfl,rfl,rfl⟩)))
    refine fG rfl rfl ?_;have c1:w3.cell? ⟨w.heap.size+1,1,none⟩=some (.slice av i cv):=LO.out.cell 1;have z1:=LO.out.free 1;go_wp2_with fail;refine⟨trivial,?_⟩;refine aD ?_;clear c1 z1;go_wp2_with fail;have Kz:=eu w3 (w.heap.size+1) 1 (.slice a3' (i+1) c3');refine HR.out _ _ ⟨i+1,rfl,by omega,⟨_,_,LO.out.set 1 _,Mq.out.keeps Kz (dT.gA Mq.out LO.out (by decide)),?_⟩,K6.out.trans (Kz.below K6.out.size (fun i hi=>by omega))⟩ ?_
    ·rw [aQ,HXI.out,cn,List.map_take]
     exact Lq.out.keeps Kz (dT.gA Lq.out LO.out (by decide))
    ·simp [intOf]
     omega
theorem oH (a:Option Addr) (len cap:Nat) (h2:len <=cap) (ha:a=none ->cap=0):
  ∃dp,∀wx,(Instr.slice 25 (.slice a len cap) (some (.int .i64 len)) none none).run prog wx= .ok (.slice dp 0 (cap - len)) wx:=by
 have hu:prog.underlying 25=some (.slice 3):=by kernel_rfl
 obtain⟨i0,hi,M5,LR,Mz⟩:=bX jF;cases a with
 | none=>
  have:=ha rfl;subst this;obtain rfl:len=0:=by omega
  exact⟨none,fun wx=>by simp [Instr.slice,bp hu,Instr.sliceBounds,Instr.sliceBound,sizeOf,typeInfo,hi,asIntOf,Addr.add]⟩
 | some a=>
  by_cases q:cap=len
  ·exact⟨some a,fun wx=>by simp [Instr.slice,bp hu,Instr.sliceBounds,Instr.sliceBound,sizeOf,typeInfo,hi,asIntOf,Addr.add,q]⟩
  ·exact⟨some (a.add len),fun wx=>by simp [Instr.slice,bp hu,Instr.sliceBounds,Instr.sliceBound,sizeOf,typeInfo,hi,LR,asIntOf,Addr.add,q]⟩
theorem Ig (l:List Int):l.flatMap fb=l.map (Value.int .i64):=by
 induction l with
 | nil=>rfl
 | cons x l ih=>rw [bP,ih];rfl
theorem zO {α:Type} (cur T fs:List α) (k len:Nat) (ht:cur.take len=T) (hl:k+fs.length <=len) (hT:T.length=len):(cur.take k++(fs++cur.drop (k+fs.length))).take len=T.take k++fs++T.drop (k+fs.length):=by
 have hc:len <=cur.length:=by rw [<- ht,aS]at hT;omega
 have h1:T.take k=cur.take k:=by rw [<- ht,List.take_take,cH (by omega)]
 have h2:T.drop (k+fs.length)=(cur.drop (k+fs.length)).take (len - (k+fs.length)):=by rw [<- ht,List.drop_take]
 rw [h1,h2,List.take_append,List.take_append,aP,aS,cH (by omega),cE (by rw [aS];omega),cE (l:=fs) (by omega),show len - k - fs.length=len - (k+fs.length)by omega]
theorem zt (w:World) (g:Nat) (cs:Array Value):dU (fun i=>i=g) w (w.setRow g cs):=⟨rfl,rfl,rfl,by simp [World.setRow],fun k _ hk=>setRow_other w g k cs hk⟩
def iO (e:yL) (off:Int) (fs:List Int):Option yL:=
 if off < 0\/(e.table.length:Int) - fs.length < off then none else some {e with table:=e.table.take off.toNat++fs++e.table.drop (off.toNat+fs.length)}
def EW (w:World) (B:Nat) (i:Nat):Prop:=B <=i/\∃xs,eG w i xs 3
def G8 (B X:Nat) (e:yL) (off:Int) (fs:List Int) (w:World) (en:Ending) (w':World):Prop:=
 en= .returned (.bool (iO e off fs).isSome)/\nO w' B X ((iO e off fs).getD e)/\dU (EW w B) w w'
theorem xe (w:World) (B X:Nat) (e:yL) (fv:Value) (off:Int) (fs:List Int) (h:nO w B X e) (hf:eg 1 fb w fv fs):Calls prog 30 #[.pointer (some ⟨X,0,none⟩), .int .i64 off,fv] w (G8 B X e off fs w):=by
 have Qt:=V h;obtain⟨v,v',hx,NH,KQ⟩:=h;obtain⟨av,cv,rfl,LC,My⟩:=NH.slice;obtain⟨af,cf,rfl,Pq,hcfm⟩:=eW hf;have x0:w.cell? ⟨X,0,none⟩=some (.slice av e.table.length cv):=hx.cell 0;have HFS:=V hf;have HX:=V hx;have Mq:=V NH;have Lq:=V KQ;clear hf hx NH KQ;by_cases q1:off < 0
 ·have f1:decide (off < 0)=true:=aA q1
  have HE:=V (show iO e off fs=none by unfold iO;rw [if_pos (.inl q1)]);go_enter func30,ntmps30;go_wp2_with fail;go_ret;exact⟨by rw [HE.out];rfl,by rw [HE.out];exact Qt.out,dU.refl _ _⟩
 have f1:decide (off < 0)=false:=az q1;by_cases q2:(e.table.length:Int) - fs.length < off
 ·have f2:decide ((e.table.length:Int) - (fs.length:Int) < off)=true:=aA q2
  have HE:=V (show iO e off fs=none by unfold iO;rw [if_pos (.inr q2)]);go_enter func30,ntmps30;go_wp2_with fail;go_ret;exact⟨by rw [HE.out];rfl,by rw [HE.out];exact Qt.out,dU.refl _ _⟩
 have f2:decide ((e.table.length:Int) - (fs.length:Int) < off)=false:=az q2;obtain⟨k,rfl⟩:∃k:Nat,off=k:=⟨off.toNat,by omega⟩;have Ls:k+fs.length <=e.table.length:=by omega
 have HE:=V (show iO e k fs=some {e with table:=e.table.take k++fs++e.table.drop (k+fs.length)}by unfold iO;rw [if_neg (by omega),Int.toNat_natCast]);have NX:cv <=9223372036854775807:=My;clear q1 q2;by_cases q:fs.length=0
 ·have hE:iO e k fs=some e:=by
   rw [HE.out,aH q,bO,aK,aL,cB]
  obtain⟨dp,LZ⟩:∃dp,∀wx,(Instr.slice 25 (.slice av e.table.length cv) (some (.int .i64 k)) none none).run prog wx= .ok (.slice dp (e.table.length - k) (cv - k)) wx:=by
   by_cases ql:k < e.table.length
   ·obtain⟨g,cap,cur,hv,-⟩:=Mq.out.open (by intro h;rw [h]at ql;simp at ql)
    injection hv with e1 e2 e3;subst e1;exact⟨_,fun wx=>km g _ cv k ql LC wx⟩
   ·obtain rfl:k=e.table.length:=by omega
    have ha:av=none ->cv=0:=by
     intro h;obtain⟨_,hv | ⟨g,cap,cur,hv,-⟩⟩:=Mq.out
     ·have:=hv.1
      injection this
     ·rw [h]at hv
      injection hv with e1;cases e1
    obtain⟨dp,h⟩:=oH av e.table.length cv LC ha;exact⟨dp,fun wx=>by rw [h wx,Nat.sub_self]⟩
  have HE2:=V hE;clear hE HE;go_enter func30,ntmps30;go_wp2_with (first | (refine wpList_copy_nothing rfl (.tmp 30) (.tmp 31) 25 25 rfl 3 (by kernel_rfl) (by kernel_rfl) dp af (e.table.length - k) (cv - k) fs.length cf rfl rfl (by rw [q];exact Nat.zero_min _) ?_));go_ret;exact⟨by rw [HE2.out];rfl,by rw [HE2.out];exact Qt.out,dU.refl _ _⟩
 have Ma:e.table≠[]:=by
  intro h;rw [h,aK]at Ls;omega
 obtain⟨hlen,hv | ⟨g,cap,cur,hv,hBg,hg,hn,hm,Lr,ht⟩⟩:=id Mq.out
 ·exact absurd (aH hv.2) Ma
 injection hv with e1 e2 e3;subst e1 e3;rw [bo]at Lr ht;rw [Ig]at ht;obtain⟨_,_,hvf,_,_,Kt⟩:=HFS.out;injection hvf with e1 e3 e4;subst e1;have hf0:0 < fs.length:=by omega
 obtain⟨bf,off,rfl,hltf,-⟩:=Kt 0 _ (aq hf0);have hsrc:∀j v,(fs.map (Value.int .i64))[j]?=some v ->w.cell? (Addr.add ⟨bf,off,none⟩ j)=some v:=by
  intro j v hj;rw [cQ]at hj;cases hx:fs[j]? with
  | none=>rw [hx]at hj;cases hj
  | some y=>
   rw [hx]at hj;injection hj with hj;subst hj;obtain⟨b',off',PB,-,hc⟩:=Kt j y hx;injection PB with PB;injection PB with h1 h2;subst h1 h2;have:=hc 0 _ rfl;rw [aL,bo]at this;by_cases hj0:j=0
   ·subst hj0
    simpa [Addr.add] using this
   ·simpa [Addr.add,hj0] using this
 have LZ:=fun wx=>km g e.table.length cv k (by omega) LC wx;have HTT:=V (zO cur.toList (e.table.map (Value.int .i64)) (fs.map (Value.int .i64)) k e.table.length ht (by rw [bN];exact Ls) (by rw [bN]));have hcur:k+fs.length <=cur.size:=by omega
 have HSZ:=V Lr;clear e2 Kt ht Lr hlen;go_enter func30,ntmps30;go_wp2_with (first | (refine wpList_copy_own rfl (.tmp 30) (.tmp 31) 25 25 rfl 3 (by kernel_rfl) (by kernel_rfl) g k (e.table.length - k) (cv - k) ⟨bf,off,none⟩ fs.length cf rfl rfl cur 3 hg (fs.map (Value.int .i64)) (by rw [bN];exact(cH (by omega)).symm) hsrc (by rw [bN];exact hcur) (fun v hv=>by obtain⟨_,_,rfl⟩:=List.mem_map.1 hv;rfl) ?_));go_wp2_with fail;go_ret;have Kz:=zt w g (cur.toList.take k++(fs.map (Value.int .i64)++cur.toList.drop (k+fs.length))).toArray;have LS:=setRow_heap w g cur (cur.toList.take k++(fs.map (Value.int .i64)++cur.toList.drop (k+fs.length))).toArray 3 _ hg;refine⟨by rw [HE.out];rfl,?_,?_⟩
 ·rw [HE.out]
  show nO _ B X ⟨e.table.take k++fs++e.table.drop (k+fs.length),e.globals⟩;refine⟨_,_,HX.out.keeps Kz ?_,?_,Lq.out.keeps Kz ?_⟩
  ·intro h
   exact dT.gA Mq.out HX.out (by decide) g (by simp [eA,Value.ownBlock]) h.symm
  ·have hl:(e.table.take k++fs++e.table.drop (k+fs.length)).length=e.table.length:=by
    simp only [ah,aS,bq];omega
   have h2:=HTT.out;rw [bN]at h2;show dT _ _ _ _ _ _ (e.table.take k++fs++e.table.drop (k+fs.length));refine⟨by rw [jQ fw], .inr ⟨g,cv,_,by rw [hl],hBg,LS,by rw [hl];exact hn,hm,?_,?_⟩⟩
   ·simp only [dA,ah,aS,bq,bN,Array.length_toList]
    have:=HSZ.out;omega
   ·rw [hl,bo,Ig]
    simp only [cn,List.map_take,List.map_drop];exact h2
  ·intro i hi h
   subst h;have:=dT.ne Lq.out Mq.out (by decide) i hi;exact this (by simp [eA,Value.ownBlock])
 ·exact Kz.mono (fun i hi=>by subst hi;exact⟨hBg,_,hg⟩)
structure iV where
 kind:Int
 oX:Int
 fn:Int
 dZ:List fa
deriving DecidableEq
def iV.more:iV:=⟨1,0,0,[]⟩
def iV.full:iV:=⟨5,0,0,[]⟩
def iV.Bu (n:Int):iV:=⟨4,n,0,[]⟩
def nX (c:gF):List kl:=(fC c.body).getD []
def lM (m:ez) (f:Int):Bool:=decide (0 <=f)&&decide (f < m.imports.length)
section
def nk (w:World) (f:eV) (u:Value × Value):Prop:=dT 42 2 gb w 0 u.1 f.locals/\dT 46 2 kp w 0 u.2 f.labels
def gQ (w:World):List eV ->List (Value × Value) ->Prop
 | [],[]=>True
 | f::l,u::us=>nk w f u/\gQ w l us
 | [],_::_=>False
 | _::_,[]=>False
theorem gQ.len {w:World}:∀{l:List eV} {us:List (Value × Value)},gQ w l us ->us.length=l.length
 | [],[],_=>rfl
 | _::l,_::us,h=>by rw [aI,aI,gQ.len (l:=l) (us:=us) h.2]
 | [],_::_,h=>h.elim
 | _::_,[],h=>h.elim
theorem gQ.snoc {w:World} {f:eV} {u:Value × Value}:∀{l:List eV} {us:List (Value × Value)},gQ w l us ->nk w f u ->gQ w (l++[f]) (us++[u])
 | [],[],_,h=>⟨h,trivial⟩
 | _::l,_::us,h,k=>⟨h.1,gQ.snoc (l:=l) (us:=us) h.2 k⟩
 | [],_::_,h,_=>h.elim
 | _::_,[],h,_=>h.elim
theorem gQ.open {w:World} {f:eV}:∀{l:List eV} {us:List (Value × Value)},gQ w (l++[f]) us ->∃O5 u,us=O5++[u]/\gQ w l O5/\nk w f u
 | [],[],h=>h.elim
 | [],[u],h=>⟨[],u,rfl,trivial,h.1⟩
 | [],_::_::_,h=>h.2.elim
 | _::_,[],h=>h.elim
 | x::l,v::us,h=>by
  obtain⟨O5,u,rfl,h1,h2⟩:=gQ.open (l:=l) (us:=us) h.2;exact⟨v::O5,u,rfl,⟨h.1,h1⟩,h2⟩
theorem gQ.to {w w':World}:∀{l:List eV} {us:List (Value × Value)},gQ w l us ->(∀f u,u∈us ->nk w f u ->nk w' f u) ->gQ w' l us
 | [],[],_,_=>trivial
 | f::l,u::us,h,k=>⟨k f u (by simp) h.1,gQ.to (l:=l) (us:=us) h.2 (fun g v hv=>k g v (by simp [hv]))⟩
 | [],_::_,h,_=>h.elim
 | _::_,[],h,_=>h.elim
theorem gQ.mem {w:World}:∀{l:List eV} {us:List (Value × Value)} {u:Value × Value},gQ w l us ->u∈us ->∃f,nk w f u
 | [],[],_,_,hu=>by simp at hu
 | f::l,v::us,u,h,hu=>by
  rcases bB.1 hu with rfl | hu
  ·exact⟨f,h.1⟩
  ·exact gQ.mem (l:=l) (us:=us) h.2 hu
 | [],_::_,_,h,_=>h.elim
 | _::_,[],_,h,_=>h.elim
structure qD where
 uv:Value
 uf:Value
 us:List (Value × Value)
def qD.own (v:qD) (b g:Nat):Prop:=g=b\/eA v.uv g\/eA v.uf g\/∃u∈v.us,eA u.1 g\/eA u.2 g
def im (pre:List Value) (v:qD) (asks:Int) (post:List Value):Array Value:=(pre++v.uv::v.uf:: .int .i64 asks::post).toArray
def yT (us:List (Value × Value)):Prop:=us.Pairwise fun a b=>(∀g,eA a.1 g ->¬ eA b.1 g)/\(∀g,eA a.2 g ->¬ eA b.2 g)
structure fW (w:World) (b:Nat) (pre post:List Value) (t:TypeId) (v:qD) (s:gL):Prop where
 kf:eG w b (im pre v s.asks post) t
 dZ:dT 42 2 gb w 0 v.uv s.dZ
 eh:dT 40 5 lZ w 0 v.uf (s.eh.zip v.us)
 rows:gQ w s.eh v.us
 IY:∀u∈v.us,∀g,eA v.uv g ->¬ eA u.1 g
 apart:yT v.us
 ty:t≠42/\t≠40/\t≠46/\t≠74
section
variable {w w':World} {b:Nat} {pre post:List Value} {t:TypeId} {v:qD} {s:gL}
theorem dT.has {α:Type} {t:TypeId} {k:Nat} {enc:α ->List Value} {B:Nat} {v:Value} {l:List α} (h:dT t k enc w B v l) {g:Nat} (hg:eA v g):∃cur,eG w g cur t:=by
 obtain⟨_,⟨hv,_⟩ | ⟨g',cap,cur,hv,_,hb,_⟩⟩:=h
 ·rw [hv]at hg;simp [eA,Value.ownBlock]at hg
 ·rw [hv]at hg
  simp [eA,Value.ownBlock]at hg;subst hg;exact⟨cur,hb⟩
theorem eG.uniq {X:Nat} {xs ys:Array Value} {t t':TypeId} (h:eG w X xs t) (k:eG w X ys t'):t=t':=by
 have:=h.symm.trans k;injection this with this;injection this
theorem fW.kinds (h:fW w b pre post t v s) {g:Nat} (hg:v.own b g):(g=b)\/∃cur t',eG w g cur t'/\(t'=42\/t'=40\/t'=46):=by
 rcases hg with rfl | hg | hg | ⟨u,hu,hg⟩
 ·exact .inl rfl
 ·obtain⟨cur,hb⟩:=h.dZ.has hg
  exact .inr ⟨cur,_,hb, .inl rfl⟩
 ·obtain⟨cur,hb⟩:=h.eh.has hg
  exact .inr ⟨cur,_,hb, .inr (.inl rfl)⟩
 ·obtain⟨f,hf⟩:=h.rows.mem hu
  rcases hg with hg | hg
  ·obtain⟨cur,hb⟩:=hf.1.has hg
   exact .inr ⟨cur,_,hb, .inl rfl⟩
  ·obtain⟨cur,hb⟩:=hf.2.has hg
   exact .inr ⟨cur,_,hb, .inr (.inr rfl)⟩
theorem fW.lt (h:fW w b pre post t v s) {g:Nat} (hg:v.own b g):g < w.heap.size:=by
 rcases h.kinds hg with rfl | ⟨cur,t',hb,_⟩
 ·exact h.kf.lt
 ·exact hb.lt
theorem fW.not (h:fW w b pre post t v s) {X:Nat} {xs:Array Value} {t':TypeId} (hX:eG w X xs t') (hb:X≠b) (ht:t'≠42/\t'≠40/\t'≠46):¬ v.own b X:=by
 intro hg;rcases h.kinds hg with rfl | ⟨cur,t2,Kx,h2⟩
 ·exact hb rfl
 ·have:=Kx.uniq hX
  subst this;rcases h2 with h2 | h2 | h2
  ·exact ht.1 h2
  ·exact ht.2.1 h2
  ·exact ht.2.2 h2
theorem nk.keeps {P:Nat ->Prop} {f:eV} {u:Value × Value} (h:nk w f u) (hk:dU P w w') (hP:∀g,eA u.1 g\/eA u.2 g ->¬ P g):nk w' f u:=
 ⟨h.1.keeps hk (fun g hg=>hP g (.inl hg)),h.2.keeps hk (fun g hg=>hP g (.inr hg))⟩
theorem fW.keeps {P:Nat ->Prop} (h:fW w b pre post t v s) (hk:dU P w w') (hP:∀g,v.own b g ->¬ P g):fW w' b pre post t v s:=
 ⟨h.kf.keeps hk (hP b (.inl rfl)),h.dZ.keeps hk (fun g hg=>hP g (.inr (.inl hg))),h.eh.keeps hk (fun g hg=>hP g (.inr (.inr (.inl hg)))),
  h.rows.to (fun _ u hu hf=>hf.keeps hk (fun g hg=>hP g (.inr (.inr (.inr ⟨u,hu,hg⟩))))),h.IY,h.apart,h.ty⟩
theorem fW.below (h:fW w b pre post t v s) (hb:Below w.heap.size w w'):fW w' b pre post t v s:=h.keeps (P:=fun _=>False) (dU.dW hb) (fun _ _ h=>h)
theorem fW.drew (h:fW w b pre post t v s):fW w.drew b pre post t v s:=h.below (an _ _).drew
theorem fW.alloc (h:fW w b pre post t v s) (o:Obj):fW (w.alloc o) b pre post t v s:=h.below ((an _ _).alloc (ag _) o)
def kU (v v':qD) (b:Nat) (w w':World):Prop:=dU (v.own b) w w'/\∀g,v'.own b g ->v.own b g\/w.heap.size <=g
theorem kU.refl (v:qD) (b:Nat) (w:World):kU v v b w w:=⟨dU.refl _ _,fun _ h=> .inl h⟩
theorem kU.trans {v v' v2:qD} {w2:World} (h:kU v v' b w w') (k:kU v' v2 b w' w2):kU v v2 b w w2:=
 ⟨h.1.trans k.1 (fun g hg=>h.2 g hg),fun g hg=>(k.2 g hg).elim (h.2 g) (fun hg=> .inr (aW h.1.size hg))⟩
theorem kU.below {v v':qD} {w2:World} (h:kU v v' b w w') (k:Below w'.heap.size w' w2):kU v v' b w w2:=
 ⟨h.1.trans (dU.dW (S:=fun _=>False) k) (fun _ h=>h.elim),h.2⟩
theorem kU.dW {v:qD} (k:Below w.heap.size w w'):kU v v b w w':=(kU.refl v b w).below k
theorem kU.drew {v v':qD} (h:kU v v' b w w'):kU v v' b w w'.drew:=h.below (an _ _).drew
theorem rq (pre:List Value) (v:qD) (n:Int) (post:List Value):(im pre v n post)[pre.length]?=some v.uv:=by simp [im]
theorem ye (pre:List Value) (v:qD) (n:Int) (post:List Value):(im pre v n post)[pre.length+1]?=some v.uf:=by simp [im]
theorem Eh (pre:List Value) (v:qD) (n:Int) (post:List Value):(im pre v n post)[pre.length+2]?=some (.int .i64 n):=by simp [im]
theorem G7 (pre:List Value) (v:qD) (n:Int) (post:List Value) (x:Value):(im pre v n post).setIfInBounds pre.length x=im pre {v with uv:=x} n post:=by simp [im]
theorem Bv (pre:List Value) (v:qD) (n:Int) (post:List Value) (x:Value):(im pre v n post).setIfInBounds (pre.length+1) x=im pre {v with uf:=x} n post:=by simp [im]
theorem fW.c0 (h:fW w b pre post t v s):w.cell? ⟨b,pre.length,none⟩=some v.uv:=(h.kf.cell _).trans (rq _ _ _ _)
theorem fW.c1 (h:fW w b pre post t v s):w.cell? ⟨b,pre.length+1,none⟩=some v.uf:=(h.kf.cell _).trans (ye _ _ _ _)
theorem fW.c2 (h:fW w b pre post t v s):w.cell? ⟨b,pre.length+2,none⟩=some (.int .i64 s.asks):=(h.kf.cell _).trans (Eh _ _ _ _)
theorem fW.Jt {α:Type} {t':TypeId} {k:Nat} {enc:α ->List Value} {B:Nat} {u:Value} {l:List α} (h:fW w b pre post t v s) (ho:dT t' k enc w B u l) (ht:t'=42\/t'=40\/t'=46):¬ eA u b:=by
 intro hg;obtain⟨cur,hb⟩:=ho.has hg;have:=hb.uniq h.kf;subst this;rcases ht with ht | ht | ht
 ·exact h.ty.1 ht
 ·exact h.ty.2.1 ht
 ·exact h.ty.2.2.1 ht
theorem fW.DL {w1:World} (h:fW w b pre post t v s) (hk:dU (eA v.uv) w w1):
  eG w1 b (im pre v s.asks post) t/\dT 40 5 lZ w1 0 v.uf (s.eh.zip v.us)/\gQ w1 s.eh v.us:=by
 refine⟨h.kf.keeps hk (h.Jt h.dZ (.inl rfl)),h.eh.keeps hk (fun g hg=>dT.ne h.eh h.dZ (by decide) g hg),h.rows.to (fun f u hu hf=>?_)⟩;exact hf.keeps hk (fun g hg h2=>by
  rcases hg with hg | hg
  ·exact h.IY u hu g h2 hg
  ·exact dT.ne hf.2 h.dZ (by decide) g hg h2)
theorem fW.sI {w1:World} {uv':Value} {PU:List fa} (h:fW w b pre post t v s) (ho:dT 42 2 gb w1 0 uv' PU) (hk:dU (eA v.uv) w w1) (hs:eE w v.uv uv'):
  fW (w1.setCell ⟨b,pre.length,none⟩ uv') b pre post t {v with uv:=uv'} {s with dZ:=PU}/\kU v {v with uv:=uv'} b w (w1.setCell ⟨b,pre.length,none⟩ uv'):=by
 obtain⟨h1,h2,h3⟩:=fW.DL h hk;have Kz:=eu w1 b pre.length uv';have hb:∀{α:Type} {t':TypeId} {k:Nat} {enc:α ->List Value} {B:Nat} {u:Value} {l:List α},dT t' k enc w1 B u l ->(t'=42\/t'=40\/t'=46) ->∀g,eA u g ->¬ g=b:=by
  intro α t' k enc B u l ho ht g hg he;subst he;obtain⟨cur,hb⟩:=ho.has hg;have:=hb.uniq h1;subst this;rcases ht with ht | ht | ht
  ·exact h.ty.1 ht
  ·exact h.ty.2.1 ht
  ·exact h.ty.2.2.1 ht
 refine⟨⟨?_,ho.keeps Kz (hb ho (.inl rfl)),h2.keeps Kz (hb h2 (.inr (.inl rfl))),h3.to (fun f u hu hf=>hf.keeps Kz (fun g hg=>?_)),?_,h.apart,h.ty⟩,?_,?_⟩
 ·have:=h1.set pre.length uv'
  rw [G7]at this;exact this
 ·rcases hg with hg | hg
  ·exact hb hf.1 (.inl rfl) g hg
  ·exact hb hf.2 (.inr (.inr rfl)) g hg
 ·intro u hu g hg h4
  rcases hs g hg with h5 | h5
  ·exact h.IY u hu g h5 h4
  ·obtain⟨f,hf⟩:=h.rows.mem hu
   have:=(et hf.1 h4).2;omega
 ·exact(hk.mono (fun g hg=> .inr (.inl hg))).trans Kz (fun g hg=> .inl (.inl hg))
 ·intro g hg
  rcases hg with hg | hg | hg | hg
  ·exact .inl (.inl hg)
  ·exact(hs g hg).imp (fun h=> .inr (.inl h)) id
  ·exact .inl (.inr (.inr (.inl hg)))
  ·exact .inl (.inr (.inr (.inr hg)))
theorem fW.top {lo:List eV} {f:eV} (h:fW w b pre post t v s) (hs:s.eh=lo++[f]):
  ∃us u g cap,v.us=us++[u]/\us.length=lo.length/\v.uf= .slice (some ⟨g,0,none⟩) (lo.length+1) cap/\lo.length+1 <=cap/\cap <=9223372036854775807/\g < w.heap.size/\
   (w.cell? ⟨g,lo.length*5,none⟩=some (.int .i64 f.fn)/\w.cell? ⟨g,lo.length*5+1,none⟩=some (.int .i64 f.pc)/\w.cell? ⟨g,lo.length*5+2,none⟩=some u.1/\w.cell? ⟨g,lo.length*5+3,none⟩=some (.int .i64 f.base)/\w.cell? ⟨g,lo.length*5+4,none⟩=some u.2)/\
   gQ w lo us/\nk w f u/\∀i,w.frozen? ⟨g,i,none⟩=false:=by
 have hr:=h.rows;rw [hs]at hr;obtain⟨us,u,hu,h1,h2⟩:=hr.open;have hlen:=h1.len;have hf:=h.eh;rw [hs,hu,di hlen.symm]at hf;obtain⟨g,cap,cur,he,-,hg,hb,Lk,hm⟩:=hf.open (by simp);have hl:(lo.zip us++[f].zip [u]).length=lo.length+1:=by simp [hlen]
 rw [hl]at he Lk;rw [he]at hf;have hx:(lo.zip us++[f].zip [u])[lo.length]?=some (f,u):=by
  rw [bg (by simp [hlen])];simp [hlen]
 exact⟨us,u,g,cap,hu,hlen,he,Lk,by simpa [maxLen] using hm,hg,⟨by have:=dT.cell iw hf (j:=0) hx rfl;rwa [aL]at this,dT.cell iw hf (j:=1) hx rfl,dT.cell iw hf (j:=2) hx rfl,dT.cell iw hf (j:=3) hx rfl,dT.cell iw hf (j:=4) hx rfl⟩,h1,h2,dT.free hf⟩
theorem Hq {uv:Value} {dZ:List fa} {asks:Int} {lo:List eV} {f f':eV} {us:List (Value × Value)} {u u':Value × Value} {g cap:Nat} {x:Value} {j:Nat}
  (hb:eG w b (im pre ⟨uv, .slice (some ⟨g,0,none⟩) (lo.length+1) cap,us++[u']⟩ asks post) t) (hv:dT 42 2 gb w 0 uv dZ)
  (Kw:dT 40 5 lZ w 0 (.slice (some ⟨g,0,none⟩) (lo.length+1) cap) ((lo++[f]).zip (us++[u]))) (QY:gQ w lo us) (hr:nk w f' u')
  (hj:j < 5) (he:lZ (f',u')=(lZ (f,u)).set j x) (hfar:∀u2∈us++[u'],∀g,eA uv g ->¬ eA u2.1 g) (hap:yT (us++[u'])) (ht:t≠42/\t≠40/\t≠46/\t≠74):
  fW (w.setCell ⟨g,lo.length*5+j,none⟩ x) b pre post t ⟨uv, .slice (some ⟨g,0,none⟩) (lo.length+1) cap,us++[u']⟩ ⟨dZ,lo++[f'],asks⟩:=by
 have hlen:=QY.len;have hfr2:=Kw;rw [di hlen.symm]at Kw;have hx:(lo.zip us++[f].zip [u])[lo.length]?=some (f,u):=by
  rw [bg (by simp [hlen])];simp [hlen]
 have Ow:=dT.set iw Kw hx hj he;have e4:(lo.zip us++[f].zip [u]).set lo.length (f',u')=lo.zip us++[f'].zip [u']:=by
  rw [List.set_append_right _ _ (by simp [hlen])];simp [hlen]
 rw [e4, <- di hlen.symm]at Ow;have Kz:=eu w g (lo.length*5+j) x;have hg:eA (.slice (some ⟨g,0,none⟩) (lo.length+1) cap) g:=by simp [eA,Value.ownBlock]
 refine⟨hb.keeps Kz (fun e=>?_),hv.keeps Kz (fun i hi e=>dT.ne hv Kw (by decide) i hi (by rw [e];exact hg)),Ow,
  (gQ.snoc QY hr).to (fun f2 u2 _ h3=>h3.keeps Kz (fun i hi e=>?_)),hfar,hap,ht⟩
 ·obtain⟨cur,hc⟩:=hfr2.has hg
  rw [<- e]at hc;exact ht.2.1 (hb.uniq hc)
 ·rcases hi with hi | hi
  ·exact dT.ne h3.1 Kw (by decide) i hi (by rw [e];exact hg)
  ·exact dT.ne h3.2 Kw (by decide) i hi (by rw [e];exact hg)
theorem fW.Fw {uv:Value} {dZ:List fa} {asks:Int} {lo:List eV} {f:eV} (f':eV) {us:List (Value × Value)} {u:Value × Value} {g cap:Nat} {x:Value} (j:Nat) (h:fW w b pre post t ⟨uv, .slice (some ⟨g,0,none⟩) (lo.length+1) cap,us++[u]⟩ ⟨dZ,lo++[f],asks⟩)
  (hj:j < 5) (he:lZ (f',u)=(lZ (f,u)).set j x) (h1:f'.locals=f.locals) (h2:f'.labels=f.labels):
  fW (w.setCell ⟨g,lo.length*5+j,none⟩ x) b pre post t ⟨uv, .slice (some ⟨g,0,none⟩) (lo.length+1) cap,us++[u]⟩ ⟨dZ,lo++[f'],asks⟩/\
   kU ⟨uv, .slice (some ⟨g,0,none⟩) (lo.length+1) cap,us++[u]⟩ ⟨uv, .slice (some ⟨g,0,none⟩) (lo.length+1) cap,us++[u]⟩ b w (w.setCell ⟨g,lo.length*5+j,none⟩ x):=by
 obtain⟨us2,u2,e2,h3,h4⟩:=h.rows.open;obtain⟨rfl,e3⟩:=List.append_inj' e2 rfl;injection e3 with e3;subst e3;exact⟨Hq h.kf h.dZ h.eh h3 (by unfold nk;rw [h1,h2];exact h4) hj he h.IY h.apart h.ty,
  (eu w g _ x).mono (fun i hi=>by subst hi;exact .inr (.inr (.inl (by simp [eA,Value.ownBlock])))),fun i hi=> .inl hi⟩
theorem fW.BO {w1:World} (h:fW w b pre post t v s) (hk:dU (eA v.uf) w w1):
  eG w1 b (im pre v s.asks post) t/\dT 42 2 gb w1 0 v.uv s.dZ/\gQ w1 s.eh v.us:=by
 refine⟨h.kf.keeps hk (h.Jt h.eh (.inr (.inl rfl))),h.dZ.keeps hk (fun g hg=>dT.ne h.dZ h.eh (by decide) g hg),h.rows.to (fun f u hu hf=>?_)⟩;exact hf.keeps hk (fun g hg h2=>by
  rcases hg with hg | hg
  ·exact dT.ne hf.1 h.eh (by decide) g hg h2
  ·exact dT.ne hf.2 h.eh (by decide) g hg h2)
theorem Bx {w1:World} {v':qD} {s':gL} (k:Nat) (x:Value) (hb:eG w1 b (im pre v s.asks post) t) (he:(im pre v s.asks post).setIfInBounds k x=im pre v' s'.asks post)
  (hv:dT 42 2 gb w1 0 v'.uv s'.dZ) (hf:dT 40 5 lZ w1 0 v'.uf (s'.eh.zip v'.us)) (hr:gQ w1 s'.eh v'.us)
  (hfar:∀u∈v'.us,∀g,eA v'.uv g ->¬ eA u.1 g) (hap:yT v'.us) (ht:t≠42/\t≠40/\t≠46/\t≠74):
  fW (w1.setCell ⟨b,k,none⟩ x) b pre post t v' s':=by
 have Kz:=eu w1 b k x;have hn:∀{α:Type} {t':TypeId} {k:Nat} {enc:α ->List Value} {B:Nat} {u:Value} {l:List α},dT t' k enc w1 B u l ->(t'=42\/t'=40\/t'=46) ->∀g,eA u g ->¬ g=b:=by
  intro α t' k enc B u l ho hte g hg e;subst e;obtain⟨cur,hc⟩:=ho.has hg;have:=hc.uniq hb;subst this;rcases hte with hte | hte | hte
  ·exact ht.1 hte
  ·exact ht.2.1 hte
  ·exact ht.2.2.1 hte
 refine⟨?_,hv.keeps Kz (hn hv (.inl rfl)),hf.keeps Kz (hn hf (.inr (.inl rfl))),hr.to (fun f u _ h3=>h3.keeps Kz (fun g hg=>?_)),hfar,hap,ht⟩
 ·have:=hb.set k x
  rw [he]at this;exact this
 ·rcases hg with hg | hg
  ·exact hn h3.1 (.inl rfl) g hg
  ·exact hn h3.2 (.inr (.inr rfl)) g hg
theorem fW.F2 {uv:Value} {dZ:List fa} {asks:Int} {lo:List eV} {f:eV} {us:List (Value × Value)} {u:Value × Value} {g cap:Nat} (h:fW w b pre post t ⟨uv, .slice (some ⟨g,0,none⟩) (lo.length+1) cap,us++[u]⟩ ⟨dZ,lo++[f],asks⟩):
  fW (w.setCell ⟨b,pre.length+1,none⟩ (.slice (some ⟨g,0,none⟩) lo.length cap)) b pre post t ⟨uv, .slice (some ⟨g,0,none⟩) lo.length cap,us⟩ ⟨dZ,lo,asks⟩/\
   kU ⟨uv, .slice (some ⟨g,0,none⟩) (lo.length+1) cap,us++[u]⟩ ⟨uv, .slice (some ⟨g,0,none⟩) lo.length cap,us⟩ b w (w.setCell ⟨b,pre.length+1,none⟩ (.slice (some ⟨g,0,none⟩) lo.length cap)):=by
 obtain⟨us2,u2,e2,h3,h4⟩:=h.rows.open;obtain⟨rfl,e3⟩:=List.append_inj' e2 rfl;injection e3 with e3;subst e3;have hlen:=h3.len;have Kw:=h.eh;simp only at Kw;rw [di hlen.symm]at Kw;have hT:=dT.take iw Kw lo.length (by simp [hlen]);rw [dk (by simp [hlen])]at hT;have hap:=h.apart;rw [yT,cW]at hap;refine⟨Bx _ _ h.kf (by rw [Bv];rfl) h.dZ hT h3 (fun u2 MG=>h.IY u2 (by simp [MG])) hap.1 h.ty,(eu w b _ _).mono (fun i hi=> .inl hi),fun i hi=> .inl ?_⟩;rcases hi with hi | hi | hi | ⟨u2,MG,hi⟩
 ·exact .inl hi
 ·exact .inr (.inl hi)
 ·exact .inr (.inr (.inl ((dT.same i).1 hi)))
 ·exact .inr (.inr (.inr ⟨u2,by simp [MG],hi⟩))
theorem fW.C3 {w1:World} {f:eV} {u:Value × Value} {uf':Value} (h:fW w b pre post t v s) (hr:nk w f u) (hn:∀g,eA u.1 g\/eA u.2 g ->¬ v.own b g) (hnk:∀g,eA u.1 g\/eA u.2 g ->¬ eA v.uf g) (ho:dT 40 5 lZ w1 0 uf' (s.eh.zip v.us++[(f,u)])) (hk:dU (eA v.uf) w w1) (hs:eE w v.uf uf'):
  fW (w1.setCell ⟨b,pre.length+1,none⟩ uf') b pre post t ⟨v.uv,uf',v.us++[u]⟩ ⟨s.dZ,s.eh++[f],s.asks⟩/\
   dU (v.own b) w (w1.setCell ⟨b,pre.length+1,none⟩ uf')/\∀g,(⟨v.uv,uf',v.us++[u]⟩:qD).own b g ->v.own b g\/(eA u.1 g\/eA u.2 g)\/w.heap.size <=g:=by
 obtain⟨h1,h2,h3⟩:=h.BO hk;have hlen:=h.rows.len;have e1:s.eh.zip v.us++[(f,u)]=(s.eh++[f]).zip (v.us++[u]):=by rw [di hlen.symm];rfl
 rw [e1]at ho;refine⟨Bx (s:=s) _ _ h1 (by rw [Bv];rfl) h2 ho (gQ.snoc h3 (hr.keeps hk hnk)) ?_ ?_ h.ty,?_,?_⟩
 ·intro u2 MG g hg
  rcases bx.1 MG with h6 | h6
  ·exact h.IY u2 h6 g hg
  ·rw [aV.1 h6]
   exact fun h7=>hn g (.inl h7) (.inr (.inl hg))
 ·rw [yT,cW]
  refine⟨h.apart,by simp,fun a ha c hc=>?_⟩;rw [aV.1 hc];exact⟨fun g hg h7=>hn g (.inl h7) (.inr (.inr (.inr ⟨a,ha, .inl hg⟩))),fun g hg h7=>hn g (.inr h7) (.inr (.inr (.inr ⟨a,ha, .inr hg⟩)))⟩
 ·refine(hk.mono (fun i hi=> .inr (.inr (.inl hi)))).trans (eu w1 b _ uf') (fun i hi=> .inl (.inl hi))
 ·intro g hg
  rcases hg with hg | hg | hg | ⟨u2,MG,hg⟩
  ·exact .inl (.inl hg)
  ·exact .inl (.inr (.inl hg))
  ·exact(hs g hg).elim (fun h=> .inl (.inr (.inr (.inl h)))) (fun h=> .inr (.inr h))
  ·rcases bx.1 MG with h6 | h6
   ·exact .inl (.inr (.inr (.inr ⟨u2,h6,hg⟩)))
   ·rw [aV.1 h6]at hg
    exact .inr (.inl hg)
theorem fW.cells {uv:Value} {dZ:List fa} {asks:Int} {lo:List eV} {f:eV} {us:List (Value × Value)} {u:Value × Value} {g cap:Nat} (h:fW w b pre post t ⟨uv, .slice (some ⟨g,0,none⟩) (lo.length+1) cap,us++[u]⟩ ⟨dZ,lo++[f],asks⟩):
  (w.cell? ⟨g,lo.length*5,none⟩=some (.int .i64 f.fn)/\w.cell? ⟨g,lo.length*5+1,none⟩=some (.int .i64 f.pc)/\w.cell? ⟨g,lo.length*5+2,none⟩=some u.1/\w.cell? ⟨g,lo.length*5+3,none⟩=some (.int .i64 f.base)/\w.cell? ⟨g,lo.length*5+4,none⟩=some u.2)/\
   nk w f u/\gQ w lo us/\(∀i,w.frozen? ⟨g,i,none⟩=false)/\g < w.heap.size/\lo.length+1 <=cap/\cap <=9223372036854775807:=by
 obtain⟨us2,u2,g2,KA,e1,_,e2,h3,h4,h5,h6,h7,h8,h9⟩:=h.top rfl;obtain⟨rfl,e3⟩:=List.append_inj' e1 rfl;injection e3 with e3;injection e2 with e4 _ e5;injection e4 with e4;injection e4 with e4;subst e3 e4 e5;exact⟨h6,h8,h7,h9,h5,h3,h4⟩
end
end
section
open Go.RowKit Go.Maps
def Iw (n:Int):DataW Unit:= .lit (.int .i64 n)
def Gv (b:kl):DataW Unit:= .agg [Iw b.pos,Iw b.JR,Iw b.fin]
def BT:Value ->Option (DataW Unit × List MemPlace)
 | .agg cs=>match cs.toList with
  | [.int .i64 a, .int .i64 b, .int .i64 c]=>some (Gv ⟨a,b,c⟩,[])
  | _=>none
 | _=>none
def zf (D:DataW Unit) (b:kl):DataW Unit:=D.put (.int .i64 b.pos) (Gv b)
def zS (l:List kl):DataW Unit:=l.foldl zf (.map [])
theorem A8 (l:List kl) (b:kl):zS (l++[b])=(zS l).put (.int .i64 b.pos) (Gv b):=by simp [zS,zf,List.foldl_append]
def fX (w:World) (j:Nat) (l:List kl):Prop:=∃n,n <=l.length/\w.ownsMap prog 3 BT j n (zS l)
theorem fX.lt {w:World} {j:Nat} {l:List kl} (h:fX w j l):j < w.heap.size:=by
 obtain⟨n,-,h⟩:=h;exact h.lt
theorem fX.keeps {w w':World} {j:Nat} {l:List kl} {P:Nat ->Prop} (h:fX w j l) (hk:dU P w w') (hj:¬ P j):fX w' j l:=by
 have KC:=h.lt;obtain⟨n,hn,es,clock,hb,r⟩:=h;exact⟨n,hn,es,clock,(hk.block j KC hj).trans hb,r⟩
theorem fX.below {w w':World} {j:Nat} {l:List kl} (h:fX w j l) (hb:Below w.heap.size w w'):fX w' j l:=h.keeps (P:=fun _=>False) (dU.dW hb) (fun h=>h)
theorem IX:prog.underlying 72=some (.map 3 107):=by kernel_rfl
theorem If:prog.underlying 3=some (.int .i64):=by kernel_rfl
end
theorem AE (K:Nat) (hK:K <=5000) (n:Int) (hn:n=(K:Int)) (w:World):(Instr.makeSlice 97 (.int .i64 n) (.int .i64 n)).run prog w=
  .ok (.slice (some ⟨w.heap.size,0,none⟩) K K) (w.alloc (.cells (List.replicate K (.int .u8 0)).toArray 5)):=by
 subst hn;obtain⟨i,hi,M5,LR,Mz⟩:=bX od;have h:=run_make (P:=prog) w 97 5 i _ (by kernel_rfl) hi M5 .i64 .i64 (K:Int) (K:Int) (by omega) (Int.le_refl _) (by rw [Mz];omega) (by omega);rw [LR,cG,bo]at h;have e:madeCells (Value.cells (.int .u8 0)) K=(List.replicate K (.int .u8 0)).toArray:=by
  apply Array.ext
  ·simp [madeCells]
  ·intro i h1 h2
   have:i %1=0:=Nat.mod_one i;simp [madeCells,Value.cells,this]
 rw [e]at h;exact h
structure zz where
 bytes:List UInt8
 fi:Int
 Bq:List Int
def Ee (w:World) (B X:Nat) (e:zz):Prop:=∃v v',eG w X #[v, .int .i64 e.fi,v'] 145/\dX w B v e.bytes/\dT 3 1 fb w B v' e.Bq
def n8 (mx:Int):Int:=if mx= -1 then 16 else max (min 16 mx) (-1)
def jl (l:fP):Option zz:=if l.has=false\/l.min < 0\/16 < l.min then none else some ⟨List.replicate (l.min.toNat*256) 0,n8 l.max,[]⟩
def Cn (l:fP) (w:World) (e:Ending) (w':World):Prop:=
 Below w.heap.size w w'/\((jl l=none/\e= .returned (.pointer none))\/∃x X,jl l=some x/\e= .returned (.pointer (some ⟨X,0,none⟩))/\Ee w' w.heap.size X x/\w.heap.size <=X)
theorem za {w:World} {g K B:Nat} (h:eG w g (List.replicate K (.int .u8 0)).toArray 5) (hB:B <=g) (hK:K <=100000):dX w B (.slice (some ⟨g,0,none⟩) K K) (List.replicate K 0):=by
 refine⟨by simp, .inr ⟨g,K,_,by simp,hB,h,by simp,by simp [maxLen];omega,by simp,?_⟩⟩;simp [List.map_replicate,bv]
theorem pY (w:World) (n:Nat) (hn:n <=16) (o:Obj) (m:Int):
  Ee (((w.alloc o).alloc (.cells (Array.replicate (n*256) (.int .u8 0)) 5)).alloc (.cells #[.slice (some ⟨w.heap.size+1,0,none⟩) (n*256) (n*256), .int .i64 m, .slice none 0 0] 145)).drew w.heap.size (w.heap.size+2) ⟨List.replicate (n*256) 0,m,[]⟩/\
  Below w.heap.size w (((w.alloc o).alloc (.cells (Array.replicate (n*256) (.int .u8 0)) 5)).alloc (.cells #[.slice (some ⟨w.heap.size+1,0,none⟩) (n*256) (n*256), .int .i64 m, .slice none 0 0] 145)).drew:=by
 rw [<- List.toArray_replicate];have KJ:=(an w.heap.size w).alloc (ag _) o;have Kx:=KJ.alloc (by rw [aE];omega) (.cells (List.replicate (n*256) (.int .u8 0)).toArray 5);have K9:=Kx.alloc (by rw [aE,aE];omega) (.cells #[.slice (some ⟨w.heap.size+1,0,none⟩) (n*256) (n*256), .int .i64 m, .slice none 0 0] 145);have hx:=eG.new ((w.alloc o).alloc (.cells (List.replicate (n*256) (.int .u8 0)).toArray 5)) #[.slice (some ⟨w.heap.size+1,0,none⟩) (n*256) (n*256), .int .i64 m, .slice none 0 0] 145;have hy:=(eG.new (w.alloc o) (List.replicate (n*256) (.int .u8 0)).toArray 5).alloc (.cells #[.slice (some ⟨w.heap.size+1,0,none⟩) (n*256) (n*256), .int .i64 m, .slice none 0 0] 145);simp only [aE]at hx hy;exact⟨⟨_,_,hx.drew,za hy.drew (by omega) (by omega),dT.nil _ _⟩,K9.drew⟩
theorem z9 (l:fP) (w:World):Calls prog 28 #[.agg #[.bool l.has, .int .i64 l.min, .int .i64 l.max]] w (Cn l w):=by
 obtain⟨has,mn,mx⟩:=l;have HB:=V ((an w.heap.size w).alloc (ag _) (.cells #[.bool has, .int .i64 mn, .int .i64 mx] 55));cases has
 ·have HM:=V (show jl ⟨false,mn,mx⟩=none by unfold jl;simp)
  go_enter func28,ntmps28;go_wp2_with fail;go_ret;exact⟨HB.out, .inl ⟨HM.out,rfl⟩⟩
 by_cases q1:mn < 0
 ·have f1:decide (mn < 0)=true:=aA q1
  have HM:=V (show jl ⟨true,mn,mx⟩=none by unfold jl;rw [if_pos (.inr (.inl q1))]);clear q1;go_enter func28,ntmps28;go_wp2_with fail;go_ret;exact⟨HB.out, .inl ⟨HM.out,rfl⟩⟩
 obtain⟨n,rfl⟩:∃n:Nat,mn=n:=⟨mn.toNat,by omega⟩;have f1:decide ((n:Int) < 0)=false:=az q1;by_cases q2:16 < n
 ·have f2:decide ((16:Int) < (n:Int))=true:=aA (by omega)
  have f3:decide (16 < n)=true:=aA q2;have HM:=V (show jl ⟨true,n,mx⟩=none by unfold jl;rw [if_pos (.inr (.inr (by show(16:Int) < n;omega)))]);clear q1 q2;go_enter func28,ntmps28;go_wp2_with fail;go_ret;exact⟨HB.out, .inl ⟨HM.out,rfl⟩⟩
 have f2:decide ((16:Int) < (n:Int))=false:=az (by omega);have f3:decide (16 < n)=false:=az q2;have HM:=V (show jl ⟨true,n,mx⟩=some ⟨List.replicate (n*256) 0,n8 mx,[]⟩by
  unfold jl;rw [aC (by simp;omega),cG])
 have hmk:=fun w=>AE (n*256) (by omega) ((n:Int)*256) (by omega) w;have hn:n <=16:=by omega
 clear q1 q2;have KJ:=HB.out.alloc (by rw [aE];omega) (.cells (List.replicate (n*256) (.int .u8 0)).toArray 5);have HS:=V (KJ.alloc (by rw [aE,aE];omega) (.cells #[.slice (some ⟨w.heap.size+1,0,none⟩) (n*256) (n*256), .int .i64 16, .slice none 0 0] 145));have hx:=eG.new ((w.alloc (.cells #[.bool true, .int .i64 n, .int .i64 mx] 55)).alloc (.cells (List.replicate (n*256) (.int .u8 0)).toArray 5)) #[.slice (some ⟨w.heap.size+1,0,none⟩) (n*256) (n*256), .int .i64 16, .slice none 0 0] 145;have hy:=(eG.new (w.alloc (.cells #[.bool true, .int .i64 n, .int .i64 mx] 55)) (List.replicate (n*256) (.int .u8 0)).toArray 5).alloc (.cells #[.slice (some ⟨w.heap.size+1,0,none⟩) (n*256) (n*256), .int .i64 16, .slice none 0 0] 145);simp only [aE]at hx hy;have HX:=V hx;have HY:=V (za hy (B:=w.heap.size) (by omega) (by omega));have HL0:=V (((eG.new w #[.bool true, .int .i64 n, .int .i64 mx] 55).alloc (.cells (List.replicate (n*256) (.int .u8 0)).toArray 5)).alloc (.cells #[.slice (some ⟨w.heap.size+1,0,none⟩) (n*256) (n*256), .int .i64 16, .slice none 0 0] 145));clear KJ hx hy;by_cases q:mx= -1
 ·have f4:=jN q
  have HMO:=V (show n8 mx=16 by unfold n8;rw [if_pos q]);clear q;go_enter func28,ntmps28;go_wp2_with fail;go_ret;exact⟨HS.out, .inr ⟨_,w.heap.size+2,HM.out,rfl,by rw [HMO.out];exact⟨_,_,HX.out,HY.out,dT.nil _ _⟩,by omega⟩⟩
 have f4:=ff q;obtain⟨r1,Pa⟩:∃r1:Int,min 16 mx=r1:=⟨_,rfl⟩;have HMO:=V (show n8 mx=max (min 16 mx) (-1)by unfold n8;rw [if_neg q]);have x1:World.cell? _ ⟨w.heap.size+2,1,none⟩=some (.int .i64 16):=HX.out.drew.cell 1;have HL:=V (HL0.out.drew);have x2:World.cell? _ ⟨w.heap.size,2,none⟩=some (.int .i64 mx):=HL.out.cell 2;replace HX:=V HX.out.drew;have HY:=V (show dX _ w.heap.size (.slice (some ⟨w.heap.size+1,0,none⟩) (n*256) (n*256)) (List.replicate (n*256) 0)from dX.below HY.out (an _ _).drew);replace HS:=V HS.out.drew;clear q Pa;go_enter func28,ntmps28;go_wp2_with fail;refine eO (fun w'=>w'.cell? ⟨w.heap.size+2,1,none⟩=some (.int .i64 16)/\w'.cell? ⟨w.heap.size,2,none⟩=some (.int .i64 mx)) 11 (up 0 7 ((7,false)::(8,false)::(9,true)::(10,true)::[])) (by kernel_rfl) (by kernel_rfl) ⟨x1,x2⟩ ?_;iterate 7 (first | (apply sk rfl rfl;simp only [pt]) | (apply dV rfl rfl rfl;·(rintro w' ⟨t0,t1⟩;go_wp2;exact⟨rfl,rfl,rfl⟩)))
 refine ed rfl rfl ?_;by_cases hq:16 <=mx
 ·have hq':decide ((16:Int) <=mx)=true:=aA hq
  replace HMO:=V (show n8 mx=16 by rw [HMO.out];omega);go_wp2_with fail;refine⟨⟨x1,x2⟩,?_⟩;refine ed rfl rfl ?_;go_wp2_with fail;refine⟨⟨x1,x2⟩,?_⟩;iterate 2 (first | (apply sk rfl rfl;simp only [pt]) | (apply dV rfl rfl rfl;·(rintro w' ⟨t0,t1⟩;go_wp2;exact⟨rfl,rfl,rfl⟩)))
  refine fG rfl rfl ?_;have z1:=HX.out.free 1;go_wp2_with fail;refine⟨trivial,?_⟩;refine aD ?_;go_wp2_with fail;go_ret;have HE:=pY w n hn (.cells #[.bool true, .int .i64 n, .int .i64 mx] 55) 16;exact⟨HE.2, .inr ⟨_,w.heap.size+2,HM.out,rfl,by rw [HMO.out];exact HE.1,by omega⟩⟩
 ·have hq':decide ((16:Int) <=mx)=false:=az hq
  by_cases hr:mx < -1
  ·have hr':decide (mx < -1)=true:=aA hr
   replace HMO:=V (show n8 mx=(-1)by rw [HMO.out];omega);go_wp2_with fail;refine⟨⟨x1,x2⟩,?_⟩;refine ed rfl rfl ?_;go_wp2_with fail;refine⟨⟨x1,x2⟩,?_⟩;iterate 2 (first | (apply sk rfl rfl;simp only [pt]) | (apply dV rfl rfl rfl;·(rintro w' ⟨t0,t1⟩;go_wp2;exact⟨rfl,rfl,rfl⟩)))
   refine fG rfl rfl ?_;have z1:=HX.out.free 1;go_wp2_with fail;refine⟨trivial,?_⟩;refine aD ?_;go_wp2_with fail;go_ret;have HE:=pY w n hn (.cells #[.bool true, .int .i64 n, .int .i64 mx] 55) (-1);exact⟨HE.2, .inr ⟨_,w.heap.size+2,HM.out,rfl,by rw [HMO.out];exact HE.1,by omega⟩⟩
  ·have hr':decide (mx < -1)=false:=az hr
   replace HMO:=V (show n8 mx=mx by rw [HMO.out];omega);go_wp2_with fail;refine⟨⟨x1,x2⟩,?_⟩;refine ed rfl rfl ?_;go_wp2_with fail;refine⟨⟨x1,x2⟩,?_⟩;iterate 2 (first | (apply sk rfl rfl;simp only [pt]) | (apply dV rfl rfl rfl;·(rintro w' ⟨t0,t1⟩;go_wp2;exact⟨rfl,rfl,rfl⟩)))
   refine fG rfl rfl ?_;have z1:=HX.out.free 1;go_wp2_with fail;refine⟨trivial,?_⟩;refine aD ?_;go_wp2_with fail;go_ret;have HE:=pY w n hn (.cells #[.bool true, .int .i64 n, .int .i64 mx] 55) mx;exact⟨HE.2, .inr ⟨_,w.heap.size+2,HM.out,rfl,by rw [HMO.out];exact HE.1,by omega⟩⟩
theorem dX.gA {w:World} {B X:Nat} {v:Value} {l:List UInt8} {xs:Array Value} {t':TypeId} (h:dX w B v l) (hb:eG w X xs t') (Ma:5≠t'):∀i,eA v i ->¬ i=X:=by
 intro i hi he;subst he;obtain⟨_,⟨hv,_⟩ | ⟨g,cap,cur,hv,_,hg,_⟩⟩:=h
 ·rw [hv]at hi;simp [eA,Value.ownBlock]at hi
 ·rw [hv]at hi
  simp [eA,Value.ownBlock]at hi;subst hi;have:=hb.symm.trans hg;injection this with this;injection this with e1 e2;exact Ma e2.symm
def JF (w:World) (B:Nat) (p:Value) (e:Option zz):Prop:=(e=none/\p= .pointer none)\/∃x X,e=some x/\p= .pointer (some ⟨X,0,none⟩)/\Ee w B X x/\B <=X
theorem xQ {α β:Type} {k:Nat} {enc:α × β ->List Value} {inner:World ->α ->β ->Prop} {w:World} {v:Value} {l:List α} (h:ee k enc inner w v l) {x:α} (hx:x∈l):∃u,inner w x u:=by
 obtain⟨i,hi⟩:=List.getElem?_of_mem hx;obtain⟨a,cap,rfl,-,-⟩:=ee.slice h;obtain⟨b,off,u,-,-,-,hu⟩:=ee.get h hi;exact⟨u,hu⟩
theorem ep.Ip {w:World} {u:eD} {m:ez} (h:ep w u m):∀x∈m.ej,∀y∈x.body,y.ok:=fun x hx y hy=>by
 obtain⟨u1,h1⟩:=xQ h.2.2.2.2.2.2.1 hx;obtain⟨u2,h2⟩:=xQ h1.1.2 hy;exact h2.2
theorem yD {w:World} {u:eD} {m:ez} (h:ep w u m) (hm:m.may):qv (fB m)=some m:=by
 unfold qv;rw [yf hm.1.Gz h.2.2.2.2.2.2.2.2 h.Ip hm.2];simp [hm]
def Es (m:ez) (w:World) (e:Ending) (w':World):Prop:=∃u,e= .returned (.agg (u.cells m))/\ep (mask (kH w.heap.size) w') u m/\Below w.heap.size w w'
theorem Ao (m:ez) (u:eD) (w:World) (hm:ep w u m) (hs:m.words) (hy:m.may):Calls prog 27 #[.agg (u.cells m)] w (Es m w):=by
 have HI:=V hm;have HWD:=V hs;have HY:=V hy;have HDEC:=V (yD hm hy);obtain⟨a0,c0,a1,c1,a2,c2,a3,c3,a4,c4,a5,c5,a6,c6,a7,c7,rfl⟩:=ep.open hm;clear hm hs hy;simp only [eD.cells];have KW:=(an w.heap.size w).alloc (ag _) (.cells #[.slice a0 m.types.length c0, .slice a1 m.imports.length c1, .slice a2 m.funcs.length c2, .bool m.table.has, .int .i64 m.table.min, .int .i64 m.table.max, .bool m.mem.has, .int .i64 m.mem.min, .int .i64 m.mem.max, .slice a3 m.globals.length c3, .slice a4 m.ea.length c4, .slice a5 m.elems.length c5, .slice a6 m.ej.length c6, .slice a7 m.eC.length c7] 62);have HS:=V (KW.alloc (by rw [aE];omega) (.cells (u0.cells m0) 62));have Mv:=eG.new (w.alloc (.cells #[.slice a0 m.types.length c0, .slice a1 m.imports.length c1, .slice a2 m.funcs.length c2, .bool m.table.has, .int .i64 m.table.min, .int .i64 m.table.max, .bool m.mem.has, .int .i64 m.mem.min, .int .i64 m.mem.max, .slice a3 m.globals.length c3, .slice a4 m.ea.length c4, .slice a5 m.elems.length c5, .slice a6 m.ej.length c6, .slice a7 m.eC.length c7] 62)) (u0.cells m0) 62;rw [aE]at Mv;have HX:=V Mv;simp only [eD.cells,u0,m0]at HX HS;clear KW Mv;go_enter func27,ntmps27;go_wp2_with fail;obtain⟨wA,O7⟩:∃wA,wA=(w.alloc (.cells #[.slice a0 m.types.length c0, .slice a1 m.imports.length c1, .slice a2 m.funcs.length c2, .bool m.table.has, .int .i64 m.table.min, .int .i64 m.table.max, .bool m.mem.has, .int .i64 m.mem.min, .int .i64 m.mem.max, .slice a3 m.globals.length c3, .slice a4 m.ea.length c4, .slice a5 m.elems.length c5, .slice a6 m.ej.length c6, .slice a7 m.eC.length c7] 62)).alloc (.cells #[.slice none 0 0, .slice none 0 0, .slice none 0 0, .bool false, .int .i64 0, .int .i64 0, .bool false, .int .i64 0, .int .i64 0, .slice none 0 0, .slice none 0 0, .slice none 0 0, .slice none 0 0, .slice none 0 0] 62):=⟨_,rfl⟩;rw [<- O7]at HS HX⊢;clear O7;refine(om m ⟨.slice a0 m.types.length c0, .slice a1 m.imports.length c1, .slice a2 m.funcs.length c2, .slice a3 m.globals.length c3, .slice a4 m.ea.length c4, .slice a5 m.elems.length c5, .slice a6 m.ej.length c6, .slice a7 m.eC.length c7⟩ wA (ep.below HI.out HS.out) HWD.out).mono ?_;rintro e w2 ⟨v,rfl,⟨NW,-⟩ | ⟨-,hv⟩,hb⟩
 ·exact absurd HY.out NW
 replace HX:=V (HX.out.below hb HX.out.lt);replace HS:=V (HS.out.trans (hb.mono HS.out.size));have HV:=V hv;clear hb hv;go_wp2_with fail;refine(qt v (fB m) w2 HV.out (by have:=HY.out.2;omega)).mono ?_;rintro e w3 ⟨hb,⟨u,m',hd,rfl,hu,-⟩ | ⟨hd,-⟩⟩;rotate_left
 ·rw [HDEC.out]at hd
  cases hd
 rw [HDEC.out]at hd;injection hd with hd;subst hd;have hlow:w.heap.size+1 < w2.heap.size:=HX.out.lt;replace HX:=V (HX.out.below hb HX.out.lt);replace HS:=V (HS.out.trans (hb.mono HS.out.size));have HU:=V hu;clear hb hu HV;obtain⟨b0,k0,b1,k1,b2,k2,b3,k3,b4,k4,b5,k5,b6,k6,b7,k7,rfl⟩:=ep.open HU.out;simp only [eD.cells];have KJ:=(an w3.heap.size w3).alloc (ag _) (.cells #[.slice b0 m.types.length k0, .slice b1 m.imports.length k1, .slice b2 m.funcs.length k2, .bool m.table.has, .int .i64 m.table.min, .int .i64 m.table.max, .bool m.mem.has, .int .i64 m.mem.min, .int .i64 m.mem.max, .slice b3 m.globals.length k3, .slice b4 m.ea.length k4, .slice b5 m.elems.length k5, .slice b6 m.ej.length k6, .slice b7 m.eC.length k7] 62);have HZ:=V (eG.new w3 #[.slice b0 m.types.length k0, .slice b1 m.imports.length k1, .slice b2 m.funcs.length k2, .bool m.table.has, .int .i64 m.table.min, .int .i64 m.table.max, .bool m.mem.has, .int .i64 m.mem.min, .int .i64 m.mem.max, .slice b3 m.globals.length k3, .slice b4 m.ea.length k4, .slice b5 m.elems.length k5, .slice b6 m.ej.length k6, .slice b7 m.eC.length k7] 62);replace HX:=V (HX.out.below KJ HX.out.lt);have HB1:=V KJ;clear KJ;obtain⟨p0,p1,p2,p3,p4,p5,p6,p7,p8,p9,p10,p11,p12,p13⟩:=HX.out.mod;obtain⟨q0,q1,q2,q3,q4,q5,q6,q7,q8,q9,q10,Ol,q12,q13⟩:=HX.out.tk;go_wp2_with fail;have hx:=((show eG _ (w.heap.size+1) (u0.cells m0) _ from HX.out).nY ⟨.slice b0 m.types.length k0, .slice b1 m.imports.length k1, .slice b2 m.funcs.length k2, .slice b3 m.globals.length k3, .slice b4 m.ea.length k4, .slice b5 m.elems.length k5, .slice b6 m.ej.length k6, .slice b7 m.eC.length k7⟩ m).mh;have Kz:=kA (w3.alloc (.cells (eD.cells ⟨.slice b0 m.types.length k0, .slice b1 m.imports.length k1, .slice b2 m.funcs.length k2, .slice b3 m.globals.length k3, .slice b4 m.ea.length k4, .slice b5 m.elems.length k5, .slice b6 m.ej.length k6, .slice b7 m.eC.length k7⟩ m) 62)) (w.heap.size+1) ⟨.slice b0 m.types.length k0, .slice b1 m.imports.length k1, .slice b2 m.funcs.length k2, .slice b3 m.globals.length k3, .slice b4 m.ea.length k4, .slice b5 m.elems.length k5, .slice b6 m.ej.length k6, .slice b7 m.eC.length k7⟩ m;refine aM (ey rfl _ _ rfl hx) rfl ?_;exact⟨_,rfl,ep.ext (ep.ext HU.out (nx (P:=fun _=>False) (dU.dW HB1.out) (fun _ h=>h.elim) (.inl (ag _)))) ((nx Kz (fun i hi=> .inl (by omega)) (.inl (ag _))).trans (tV _ (by omega))),(HS.out.trans (HB1.out.mono HS.out.size)).trans (Kz.below (by have:=HS.out.size;simp;omega) (fun i hi=>by omega))⟩
structure pG where
 u:eD
 vm:Value
 vs:Value
 vj:Value
 js:List Nat
def zc (j:Nat):List Value:=[.map (some j)]
theorem DE (j:Nat):(zc j).length=1:=rfl
theorem Fg (j:Nat):∀u∈zc j,u.oneCell'=true:=by
 intro u hu;simp only [zc,bB,bJ,cM]at hu;rw [hu];rfl
def sM (iv:pG) (m:ez):Array Value:=
 #[iv.u.types,iv.u.imports,iv.u.funcs, .bool m.table.has, .int .i64 m.table.min, .int .i64 m.table.max, .bool m.mem.has, .int .i64 m.mem.min, .int .i64 m.mem.max,iv.u.globals,iv.u.ea,iv.u.elems,iv.u.ej,iv.u.eC,iv.vm,iv.vs,iv.vj]
structure jg (w:World) (FX:Nat ->Bool) (X:Nat) (iv:pG) (m:ez):Prop where
 kf:eG w X (sM iv m) 93
 fx:FX X=true
 mod:ep (mask (fun k=> !FX k) w) iv.u m
 jumps:dT 72 1 zc w 0 iv.vj iv.js
 fj:∀g,eA iv.vj g ->FX g=true
 maps:∀(k j:Nat) (c:gF),iv.js[k]?=some j ->m.ej[k]?=some c ->fX w j (nX c)/\FX j=true
 len:iv.js.length=m.ej.length
 lt:∀g,FX g=true ->g < w.heap.size
theorem jg.keeps {P:Nat ->Prop} {w w':World} {FX:Nat ->Bool} {X:Nat} {iv:pG} {m:ez} (h:jg w FX X iv m) (hk:dU P w w') (hP:∀g,P g ->FX g=false):jg w' FX X iv m:=by
 have hN:∀g,FX g=true ->¬ P g:=fun g hg hp=>by rw [hP g hp]at hg;cases hg
 refine⟨h.kf.keeps hk (hN X h.fx),h.fx,h.mod.ext (iE hk (fun k _ hp=>by simp [hP k hp]) (fun k _ hp=>hp)),h.jumps.keeps hk (fun g hg=>hN g (h.fj g hg)),h.fj,fun k j c hj hc=>?_,h.len,fun g hg=>bH (h.lt g hg) hk.size⟩;obtain⟨h1,h2⟩:=h.maps k j c hj hc;exact⟨h1.keeps hk (hN j h2),h2⟩
theorem jg.below {w w':World} {FX:Nat ->Bool} {X:Nat} {iv:pG} {m:ez} (h:jg w FX X iv m) (hb:Below w.heap.size w w'):jg w' FX X iv m:=h.keeps (P:=fun _=>False) (dU.dW hb) (fun _ h=>h.elim)
theorem jg.is {w:World} {FX:Nat ->Bool} {X:Nat} {iv:pG} {m:ez} (h:jg w FX X iv m):ep w iv.u m:=h.mod.fT
def xi (w:World) (FM:Nat ->Bool) (p:Value) (e:Option zz):Prop:=
 (e=none/\p= .pointer none)\/∃x X v v',e=some x/\p= .pointer (some ⟨X,0,none⟩)/\eG w X #[v, .int .i64 x.fi,v'] 145/\dX w 0 v x.bytes/\dT 3 1 fb w 0 v' x.Bq/\FM X=true/\(∀g,eA v g ->FM g=true)/\∀g,eA v' g ->FM g=true
def Kp (w:World) (FSs:Nat ->Bool) (p:Value) (e:yL):Prop:=
 ∃X v v',p= .pointer (some ⟨X,0,none⟩)/\eG w X #[v,v'] 147/\dT 3 1 fb w 0 v e.table/\dT 42 2 gb w 0 v' e.globals/\FSs X=true/\(∀g,eA v g ->FSs g=true)/\∀g,eA v' g ->FSs g=true
theorem dX.lower {w:World} {B B':Nat} {v:Value} {l:List UInt8} (h:dX w B v l) (hB:B' <=B):dX w B' v l:=mD h (fun k hk=>by have:=(et h hk).1;omega)
theorem xi.keeps {P:Nat ->Prop} {w w':World} {FM:Nat ->Bool} {p:Value} {e:Option zz} (h:xi w FM p e) (hk:dU P w w') (hP:∀g,P g ->FM g=false):xi w' FM p e:=by
 have hN:∀g,FM g=true ->¬ P g:=fun g hg hp=>by rw [hP g hp]at hg;cases hg
 rcases h with h | ⟨x,X,v,v',h1,h2,h3,h4,h5,h6,h7,h8⟩
 ·exact .inl h
 ·exact .inr ⟨x,X,v,v',h1,h2,h3.keeps hk (hN X h6),h4.keeps hk (fun g hg=>hN g (h7 g hg)),h5.keeps hk (fun g hg=>hN g (h8 g hg)),h6,h7,h8⟩
def rr (a b:Nat):Nat ->Bool:=fun g=>decide (a <=g)&&decide (g < b)
theorem kZ {a b g:Nat}:rr a b g=true↔a <=g/\g < b:=by simp [rr]
theorem rm {α:Type} {k:Nat} {enc:α ->List Value} {t:TypeId} {P:Program} (w:World) {ops:Array Oper} {rest:List Oper} {o:Oper} {a:Act} {Q:Exit ->Act ->World ->Prop} (N0:o.guard=none) (s x:Operand) (ts:TypeId)
  (ho:o.op= .call {callee:= .builtin .append,args:=#[s,x],argTypes:=#[ts,ts]})
  (z:Value) (bytes:Nat) (ht:P.underlying ts=some (.slice t)) (hinf:(P.info? t).map (fun i=>(i.zero,i.size,i.bytes))=some (some z,k,bytes)) (hzs:z.cells.size=k) (h0:0 < k) (Nf:bytes <=100000000)
  (B:Nat) (v:Value) (l:List α) (hs:a.eval s=v) (Ku:dT t k enc w B v l) (hk:∀x,(enc x).length=k)
  (b:Value) (m:List α) (hx:a.eval x=b) (hm:eg k enc w b m) (h1:∀y∈m,∀u∈enc y,u.oneCell'=true)
  (OI:l.length+m.length <=1000000) (K3:B <=w.heap.size)
  (h:∀v' w',dT t k enc w' B v' (l++m) ->dU (eA v) w w' ->eE w v v' ->wpList P ops Q rest (a.put o.dst v') w'):wpList P ops Q (o::rest) a w:=by
 cases m with
 | cons y m=>
  have hm':=hm;obtain⟨ad,cap,rfl,Mj,Lj,hc3⟩:=hm';obtain⟨b,off,rfl,_⟩:=hc3 0 y rfl;exact kG w N0 s x ts ho z bytes ht hinf hzs h0 Nf B v l hs Ku hk (y::m) ⟨b,off,none⟩ (y::m).length cap hx hm h1 OI K3 h
 | nil=>
  obtain⟨i0,hi,M5,LR,Mz⟩:=bX hinf;obtain⟨ad,cap,rfl,Mj,Lj,hc3⟩:=hm;have Kx:(l.length+0)*bytes <=140737488355328:=by
   have:(l.length+0)*bytes <=1000000*100000000:=Nat.mul_le_mul (by simpa using OI) Nf;omega
  have key:∃v' w',(Builtin.append_ #[ts,ts] o.type #[v, .slice ad 0 cap]).run P w= .ok v' w'/\dT t k enc w' B v' (l++[])/\dU (eA v) w w'/\eE w v v':=by
   cases ad with
   | some ad=>
    obtain⟨v',w',h1,h2,h3,h4⟩:=sU (P:=P) w B ts o.type t i0 z k bytes ht hi M5 LR Mz hzs h0 v l.length (l.flatMap enc) Ku ad 0 cap [] (by simp) (by simp) (by simp) (by simp only [aK]at OI;simp only [maxLen];omega) Kx K3;exact⟨v',w',h1,by simpa [dT] using h2,h3,h4⟩
   | none=>
    rcases Ku.2 with⟨rfl,hl0⟩ | ⟨g,KR,cur,rfl,hb,hg,hn,hm,hs,Oa⟩
    ·refine⟨.slice none 0 0,w,?_,by simpa using Ku,dU.refl _ _,eE.refl _ _⟩
     simp [Builtin.append_,bp ht,sizeOf,typeInfo,hi,Builtin.lenOf,Builtin.firstCells]
    ·refine⟨.slice (some ⟨g,0,none⟩) l.length KR,w,?_,by simpa using Ku,dU.refl _ _,eE.refl _ _⟩
     simp [Builtin.append_,bp ht,sizeOf,typeInfo,hi,Builtin.lenOf,Builtin.firstCells,hn];simp [storeCells]
  obtain⟨v',w',hr,h2,h3,h4⟩:=key;refine dN N0 fun _ hK=>?_;unfold Oper.wp execOp;simp only [ho,resolve,invoke,builtin,cK,cd,cz,du,bA,cS,hs,hx,hr,aK];exact hK _ _ (h v' w' h2 h3 h4)
theorem uc (a:Option Addr) (len cap k:Nat) (h:k <=cap) (wx:World):
  (Instr.slice 30 (.slice a len cap) none (some (.int .i64 k)) none).run prog wx= .ok (.slice a k cap) wx:=by
 have hu:prog.underlying 30=some (.slice 42):=by kernel_rfl
 obtain⟨i0,hi,M5,LR,Mz⟩:=bX kb;simp [Instr.slice,bp hu,Instr.sliceBounds,Instr.sliceBound,sizeOf,typeInfo,hi,asIntOf,h];cases a <;>simp [Addr.add]
theorem FN (a:Option Addr) (len cap k:Nat) (h:k <=cap) (wx:World):
  (Instr.slice 35 (.slice a len cap) none (some (.int .i64 k)) none).run prog wx= .ok (.slice a k cap) wx:=by
 have hu:prog.underlying 35=some (.slice 40):=by kernel_rfl
 obtain⟨i0,hi,M5,LR,Mz⟩:=bX mX;simp [Instr.slice,bp hu,Instr.sliceBounds,Instr.sliceBound,sizeOf,typeInfo,hi,asIntOf,h];cases a <;>simp [Addr.add]
theorem eG.pF {w:World} {X:Nat} {t:TypeId} {a b c:Int} {v:Value} (h:eG w X #[.int .i64 a, .int .i64 b, .int .i64 c,v] t):(loadVar 32 ⟨X,0,none⟩).run prog w= .ok (.agg #[.int .i64 a, .int .i64 b, .int .i64 c,v]) w:=by
 have hs:(prog.underlying 32).map (fun d=>match d with | .struct _ | .array _ _=>true | _=>false)=some true:=by kernel_rfl
 obtain⟨d,h1,h2⟩:=bz.1 hs;exact bY w X t 32 _ _ d h h1 (by cases d <;>first | rfl | (exfalso;simp at h2)) (by kernel_rfl)
def nd (o:iV) (vv:Value):Value:= .agg #[.int .i64 o.kind, .int .i64 o.oX, .int .i64 o.fn,vv]
def jn (v:Value) (w:World) (e:Ending) (w':World):Prop:=e= .returned v/\Below w.heap.size w w'
theorem uM (w:World):Calls prog 38 #[] w (jn (.agg #[.int .i64 1, .int .i64 0, .int .i64 0, .slice none 0 0]) w):=by
 go_enter func38,ntmps38;go_wp2_with fail;refine aM (ey rfl _ _ rfl (eG.pF (eG.new w #[.int .i64 1, .int .i64 0, .int .i64 0, .slice none 0 0] 32))) rfl ⟨rfl,(an _ _).alloc (ag _) _⟩
theorem yU (w:World):Calls prog 35 #[] w (jn (.agg #[.int .i64 5, .int .i64 0, .int .i64 0, .slice none 0 0]) w):=by
 go_enter func35,ntmps35;go_wp2_with fail;refine aM (ey rfl _ _ rfl (eG.pF (eG.new w #[.int .i64 5, .int .i64 0, .int .i64 0, .slice none 0 0] 32))) rfl ⟨rfl,(an _ _).alloc (ag _) _⟩
theorem DI (w:World) (n:Int):Calls prog 46 #[.int .i64 n] w (jn (.agg #[.int .i64 4, .int .i64 n, .int .i64 0, .slice none 0 0]) w):=by
 go_enter func46,ntmps46;go_wp2_with fail;refine aM (ey rfl _ _ rfl (eG.pF (eG.new w #[.int .i64 4, .int .i64 n, .int .i64 0, .slice none 0 0] 32))) rfl ⟨rfl,(an _ _).alloc (ag _) _⟩
def Hg (D b o gv n cap j:Nat) (x:fa) (w:World):Prop:=
 w.cell? ⟨D,1,none⟩=some (.pointer (some ⟨b,o,none⟩))/\w.cell? ⟨b,o,none⟩=some (.slice (some ⟨gv,0,none⟩) n cap)/\w.cell? ⟨gv,j*2,none⟩=some (.int .i64 x.kind)/\w.cell? ⟨gv,j*2+1,none⟩=some (.int .i64 x.n)
theorem xX (w:World) (D b o B:Nat) (uv:Value) (l:List fa) (x:fa) (hd:w.cell? ⟨D,1,none⟩=some (.pointer (some ⟨b,o,none⟩))) (hc:w.cell? ⟨b,o,none⟩=some uv) (hv:dT 42 2 gb w B uv (l++[x])):
  Calls prog 18 #[.pointer (some ⟨D,0,none⟩), .int .i64 0] w (jn (.agg #[.int .i64 x.kind, .int .i64 x.n]) w):=by
 obtain⟨gv,cv,cur,LV,-,hgl,hgb,LC,My⟩:=hv.open (by simp);have hlen:(l++[x]).length=l.length+1:=by simp
 rw [hlen]at LV LC;subst LV;have Mv:w.cell? ⟨gv,l.length*2,none⟩=some (.int .i64 x.kind):=by
  have:=dT.cell fK hv (i:=l.length) (j:=0) (x:=x) (u:= .int .i64 x.kind) (by simp) rfl
  rwa [aL]at this
 have hx1:w.cell? ⟨gv,l.length*2+1,none⟩=some (.int .i64 x.n):=dT.cell fK hv (i:=l.length) (j:=1) (x:=x) (u:= .int .i64 x.n) (by simp) rfl;have hDl:=aT w _ hd;have Lm:=aT w _ hc;have hS:Hg D b o gv (l.length+1) cv l.length x (w.alloc (.cells #[.int .i64 0, .int .i64 0] 42)).drew:=by
  have hb:=(an w.heap.size w).alloc (ag _) (.cells #[.int .i64 0, .int .i64 0] 42);exact⟨(hb.cell hDl).trans hd,(hb.cell Lm).trans hc,(hb.cell hgl).trans Mv,(hb.cell hgl).trans hx1⟩
 have HX:=V (eG.new w #[.int .i64 0, .int .i64 0] 42).drew;have KL:=V ((an w.heap.size w).alloc (ag _) (.cells #[.int .i64 0, .int .i64 0] 42)).drew;unfold maxLen at My;clear hlen Mv hx1 hd hc hv hgb hDl Lm;go_enter func18,ntmps18;go_wp2_with fail;refine eO (Hg D b o gv (l.length+1) cv l.length x) 20 (up 0 20 []) (by kernel_rfl) (by kernel_rfl) hS ?_;clear hS;generalize(w.alloc (.cells #[.int .i64 0, .int .i64 0] 42)).drew=w1 at HX KL⊢;iterate 20 (first | (apply sk rfl rfl;simp only [pt]) | (apply dV rfl rfl rfl;·(rintro w' ⟨t0,t1,t2,t3⟩;go_wp2;exact⟨rfl,rfl,rfl⟩)))
 refine fG rfl rfl ?_;obtain⟨x0,x1,z0,z1⟩:=HX.out.two;go_wp2_with fail;refine⟨trivial,?_⟩;refine aD ?_;clear x0 x1 z0 z1;go_wp2_with fail;have NV:=HX.out.mP (.int .i64 x.kind) (.int .i64 x.n);refine aM (ey rfl _ _ rfl NV.mq) rfl ⟨rfl,KL.out.trans ((fF w1 w.heap.size _ _).below KL.out.size (fun i hi=>by omega))⟩
theorem D6 (w:World) (D b o B:Nat) (uv:Value) (l:List fa) (x y:fa) (hd:w.cell? ⟨D,1,none⟩=some (.pointer (some ⟨b,o,none⟩))) (hc:w.cell? ⟨b,o,none⟩=some uv) (hv:dT 42 2 gb w B uv (l++[x,y])):
  Calls prog 18 #[.pointer (some ⟨D,0,none⟩), .int .i64 1] w (jn (.agg #[.int .i64 x.kind, .int .i64 x.n]) w):=by
 obtain⟨gv,cv,cur,LV,-,hgl,hgb,LC,My⟩:=hv.open (by simp);have hlen:(l++[x,y]).length=l.length+2:=by simp
 rw [hlen]at LV LC;subst LV;have Mv:w.cell? ⟨gv,l.length*2,none⟩=some (.int .i64 x.kind):=by
  have:=dT.cell fK hv (i:=l.length) (j:=0) (x:=x) (u:= .int .i64 x.kind) (by simp) rfl
  rwa [aL]at this
 have hx1:w.cell? ⟨gv,l.length*2+1,none⟩=some (.int .i64 x.n):=dT.cell fK hv (i:=l.length) (j:=1) (x:=x) (u:= .int .i64 x.n) (by simp) rfl;have hDl:=aT w _ hd;have Lm:=aT w _ hc;have hS:Hg D b o gv (l.length+2) cv l.length x (w.alloc (.cells #[.int .i64 0, .int .i64 0] 42)).drew:=by
  have hb:=(an w.heap.size w).alloc (ag _) (.cells #[.int .i64 0, .int .i64 0] 42);exact⟨(hb.cell hDl).trans hd,(hb.cell Lm).trans hc,(hb.cell hgl).trans Mv,(hb.cell hgl).trans hx1⟩
 have HX:=V (eG.new w #[.int .i64 0, .int .i64 0] 42).drew;have KL:=V ((an w.heap.size w).alloc (ag _) (.cells #[.int .i64 0, .int .i64 0] 42)).drew;unfold maxLen at My;clear hlen Mv hx1 hd hc hv hgb hDl Lm;go_enter func18,ntmps18;go_wp2_with fail;refine eO (Hg D b o gv (l.length+2) cv l.length x) 20 (up 0 20 []) (by kernel_rfl) (by kernel_rfl) hS ?_;clear hS;generalize(w.alloc (.cells #[.int .i64 0, .int .i64 0] 42)).drew=w1 at HX KL⊢;iterate 20 (first | (apply sk rfl rfl;simp only [pt]) | (apply dV rfl rfl rfl;·(rintro w' ⟨t0,t1,t2,t3⟩;go_wp2;exact⟨rfl,rfl,rfl⟩)))
 refine fG rfl rfl ?_;obtain⟨x0,x1,z0,z1⟩:=HX.out.two;go_wp2_with fail;refine⟨trivial,?_⟩;refine aD ?_;clear x0 x1 z0 z1;go_wp2_with fail;have NV:=HX.out.mP (.int .i64 x.kind) (.int .i64 x.n);refine aM (ey rfl _ _ rfl NV.mq) rfl ⟨rfl,KL.out.trans ((fF w1 w.heap.size _ _).below KL.out.size (fun i hi=>by omega))⟩
theorem eg.at {α:Type} {k:Nat} {enc:α ->List Value} {w:World} {v:Value} {l:List α} (h:eg k enc w v l) {i:Nat} {x:α} (hx:l[i]?=some x):∃b off cap,v= .slice (some ⟨b,off,none⟩) l.length cap/\l.length <=cap/\cap <=9223372036854775807/\b < w.heap.size/\∀j u,(enc x)[j]?=some u ->w.cell? ⟨b,off+i*k+j,none⟩=some u:=by
 obtain⟨a,cap,rfl,h1,h2,h3⟩:=h;obtain⟨b,off,rfl,KC,hc⟩:=h3 i x hx;exact⟨b,off,cap,rfl,h1,by simpa [maxLen] using h2,KC,hc⟩
theorem eg.sl {α:Type} {k:Nat} {enc:α ->List Value} {w:World} {v:Value} {l:List α} (h:eg k enc w v l):∃a cap,v= .slice a l.length cap/\l.length <=cap/\cap <=9223372036854775807:=by
 obtain⟨a,cap,rfl,h1,h2,h3⟩:=h;exact⟨a,cap,rfl,h1,by simpa [maxLen] using h2⟩
theorem ee.at {α β:Type} {k:Nat} {enc:α × β ->List Value} {inner:World ->α ->β ->Prop} {w:World} {v:Value} {l:List α} (h:ee k enc inner w v l) {i:Nat} {x:α} (hx:l[i]?=some x):∃b off cap u,v= .slice (some ⟨b,off,none⟩) l.length cap/\l.length <=cap/\cap <=9223372036854775807/\b < w.heap.size/\(∀j v,(enc (x,u))[j]?=some v ->w.cell? ⟨b,off+i*k+j,none⟩=some v)/\inner w x u:=by
 obtain⟨a,cap,rfl,h1,h2⟩:=h.slice;obtain⟨b,off,u,rfl,KC,hc,hi⟩:=h.get hx;exact⟨b,off,cap,u,rfl,h1,h2,KC,hc,hi⟩
def rI (FX:Nat ->Bool) (w:World):World:=mask (fun k=> !FX k) w
theorem jH {FX:Nat ->Bool} {w w':World} (h:Below w.heap.size w w'):Ext (rI FX w) (rI FX w'):=iE (dU.dW (S:=fun _=>False) h) (fun _ _ h=>h.elim) (fun _ _ h=>h)
theorem tg {P:Nat ->Prop} {FX:Nat ->Bool} {w w':World} (h:dU P w w') (hP:∀g,P g ->FX g=false):Ext (rI FX w) (rI FX w'):=iE h (fun k _ hk=>by simp [hP k hk]) (fun _ _ h=>h)
theorem vJ (FX:Nat ->Bool) (w:World):Ext (rI FX w) w:=rM (P:=fun _=>False) (dU.refl _ _) (fun _ _ h=>h.elim)
def GF (FX:Nat ->Bool) (iv:pG) (k:Nat) (c:gF) (w:World) (e:Ending) (w':World):Prop:=∃v j,e= .returned (.tuple #[v, .map (some j)])/\gd (rI FX w') v c.body/\iv.js[k]?=some j/\Below w.heap.size w w'
def Ic (X b off b2:Nat) (P0 u16 u v:Value) (k:Nat) (w:World):Prop:=
 w.cell? ⟨X,12,none⟩=some P0/\w.cell? ⟨X,16,none⟩=some u16/\w.cell? ⟨b,off+k*2+1,none⟩=some u/\w.cell? ⟨b2,k,none⟩=some v
theorem EO (w:World) (FX:Nat ->Bool) (X:Nat) (iv:pG) (m:ez) (h:jg w FX X iv m) (k:Nat) (c:gF) (hc:m.ej[k]?=some c) (f:Int) (hf:f=((m.imports.length+k:Nat):Int)) (hk:m.imports.length+k <=100000):
  Calls prog 17 #[.pointer (some ⟨X,0,none⟩), .int .i64 f] w (GF FX iv k c w):=by
 subst hf;have Ls:=(aN.1 hc).1;obtain⟨j,hj⟩:∃j,iv.js[k]?=some j:=⟨_,aq (by rw [h.len];exact Ls)⟩;obtain⟨b,off,cap,u,MR,Lk,My,hb,KV,hi⟩:=ee.at h.mod.2.2.2.2.2.2.1 hc;obtain⟨ai,ci,h1,-,hcim⟩:=h.is.2.1.sl;have hj2:=h.jumps.fy DE;obtain⟨b2,KZ,KA,h16,hcap2,hcm2,Kx,hcj⟩:=eg.at hj2 hj;obtain⟨g,Me,cur3,h16',-,-,-,-,-⟩:=h.jumps.open (by intro e;rw [e]at hj;simp at hj);have e1:=h16.symm.trans h16';injection e1 with e1 _ _;injection e1 with e1;injection e1 with e1 e2;subst e1 e2;have x1:w.cell? ⟨X,1,none⟩=some (.slice ai m.imports.length ci):=by rw [<- h1];exact h.kf.cell 1
 have x12:w.cell? ⟨X,12,none⟩=some (.slice (some ⟨b,off,none⟩) m.ej.length cap):=by rw [<- MR];exact h.kf.cell 12
 have x16:w.cell? ⟨X,16,none⟩=some (.slice (some ⟨b2,0,none⟩) iv.js.length KA):=by rw [<- h16];exact h.kf.cell 16
 have y1:w.cell? ⟨b,off+k*2+1,none⟩=some u.2:=(gl (KV 1 _ rfl)).2;have y2:w.cell? ⟨b2,k,none⟩=some (.map (some j)):=by
  have:=hcj 0 _ rfl
  rwa [bW,bo,aL]at this
 obtain⟨au,cu,hue,-,-⟩:=ee.slice hi.1.2;have hS:Ic X b off b2 (.slice (some ⟨b,off,none⟩) m.ej.length cap) (.slice (some ⟨b2,0,none⟩) iv.js.length KA) (.slice au c.body.length cu) (.map (some j)) k w.drew:=⟨x12,x16,by rw [<- hue];exact y1,y2⟩;have HB:=V (show gd (rI FX w) (.slice au c.body.length cu) c.body by rw [<- hue];exact hi.1.2);have HJ:=V hj;have hkl2:k < iv.js.length:=(aN.1 hj).1;clear h hc hj KV hi hj2 hcj MR h1 h16 h16' x12 x16 y1 y2 hue;go_enter func17,ntmps17;go_wp2_with fail;refine ef (Ic X b off b2 (.slice (some ⟨b,off,none⟩) m.ej.length cap) (.slice (some ⟨b2,0,none⟩) iv.js.length KA) (.slice au c.body.length cu) (.map (some j)) k) (up 0 18 []) (by kernel_rfl) (by kernel_rfl) hS ?_;clear hS;iterate 18 (first | (apply sk rfl rfl;simp only [pt]) | (apply dV rfl rfl rfl;·(rintro w' ⟨t0,t1,t2,t3⟩;go_wp2;exact⟨rfl,rfl,rfl⟩)))
 refine eL ?_;refine aD ?_;go_wp2_with fail
 go_ret2
 have hb:=(an w.heap.size w).drew;exact⟨_,j,rfl,ee.ext HB.out (jH hb) (fun _ _ h=>h.ext (jH hb)),HJ.out,hb⟩
theorem jG (w:World) (FX:Nat ->Bool) (X:Nat) (iv:pG) (m:ez) (h:jg w FX X iv m) (f:Int):
  Calls prog 43 #[.pointer (some ⟨X,0,none⟩), .int .i64 f] w (jn (.bool (lM m f)) w):=by
 obtain⟨ai,ci,h1,-,hcim⟩:=h.is.2.1.sl;have x1:w.cell? ⟨X,1,none⟩=some (.slice ai m.imports.length ci):=by rw [<- h1];exact h.kf.cell 1
 clear h h1;by_cases q0:f < 0
 ·have f0:decide (0 <=f)=false:=az (by omega)
  have f1:decide (f < 0)=true:=aA q0;have HR:=V (show lM m f=false by simp [lM,f0]);clear q0;go_enter func43,ntmps43;go_wp2_with fail;go_ret;exact⟨by rw [HR.out];rfl,an _ _⟩
 have f0:decide (0 <=f)=true:=aA (by omega);have f1:decide (f < 0)=false:=az q0;by_cases q:f < m.imports.length
 ·have f2:decide (f < (m.imports.length:Int))=true:=aA q
  have HR:=V (show lM m f=true by simp [lM,f0,f2]);clear q q0;go_enter func43,ntmps43;go_wp2_with fail;go_ret;exact⟨by rw [HR.out];rfl,an _ _⟩
 ·have f2:decide (f < (m.imports.length:Int))=false:=az q
  have HR:=V (show lM m f=false by simp [lM,f0,f2]);clear q q0;go_enter func43,ntmps43;go_wp2_with fail;go_ret;exact⟨by rw [HR.out];rfl,an _ _⟩
def AJ (FX:Nat ->Bool) (t:gr) (w:World) (e:Ending) (w':World):Prop:=∃u1 u2,e= .returned (.tuple #[.agg #[u1,u2], .bool true])/\eg 1 fb (rI FX w') u1 t.params/\eg 1 fb (rI FX w') u2 t.results/\Below w.heap.size w w'
def uh (X b off bt LM ti:Nat) (v0 v1 v2 u1 u2:Value) (n:Int) (w:World):Prop:=
 w.cell? ⟨X,0,none⟩=some v0/\w.cell? ⟨X,1,none⟩=some v1/\w.cell? ⟨X,2,none⟩=some v2/\w.cell? ⟨b,off,none⟩=some (.int .i64 n)/\w.cell? ⟨bt,LM+ti*2,none⟩=some u1/\w.cell? ⟨bt,LM+ti*2+1,none⟩=some u2
theorem uh.keeps {P:Nat ->Prop} {X b off bt LM ti:Nat} {v0 v1 v2 u1 u2:Value} {n:Int} {w w':World} (h:uh X b off bt LM ti v0 v1 v2 u1 u2 n w) (hk:dU P w w') (hP:∀g,P g ->w.heap.size <=g\/¬ (g=X\/g=b\/g=bt)):uh X b off bt LM ti v0 v1 v2 u1 u2 n w':=by
 obtain⟨h1,h2,h3,h4,h5,h6⟩:=h;have key:∀{a:Addr} {v:Value},w.cell? a=some v ->(a.block=X\/a.block=b\/a.block=bt) ->w'.cell? a=some v:=fun ha hb=>by
  have hl:=aT w _ ha;exact(hk.cell hl (fun hp=>(hP _ hp).elim (fun h=>by omega) (fun h=>h hb))).trans ha
 exact⟨key h1 (.inl rfl),key h2 (.inl rfl),key h3 (.inl rfl),key h4 (.inr (.inl rfl)),key h5 (.inr (.inr rfl)),key h6 (.inr (.inr rfl))⟩
theorem D1 (w:World) (FX:Nat ->Bool) (X:Nat) (iv:pG) (m:ez) (h:jg w FX X iv m) (i ti:Nat) (x:jh) (t:gr) (hx:m.imports[i]?=some x) (hti:x.type=(ti:Int)) (ht:m.types[ti]?=some t) (f:Int) (hf:f=(i:Int)) (hk:m.imports.length+m.funcs.length <=100000):
  Calls prog 41 #[.pointer (some ⟨X,0,none⟩), .int .i64 f] w (AJ FX t w):=by
 subst hf;have hil:=(aN.1 hx).1;obtain⟨bt,LM,OG,ut,h0,hcapt,hcmt,hbt,Nj,hit⟩:=ee.at h.mod.1 ht;obtain⟨ap,cp,hpe,-,-⟩:=hit.1.1.sl;obtain⟨ar,cr,hre,-,-⟩:=hit.1.2.sl;have htl:=(aN.1 ht).1;have x0:w.cell? ⟨X,0,none⟩=some (.slice (some ⟨bt,LM,none⟩) m.types.length OG):=by rw [<- h0];exact h.kf.cell 0
 have y1:w.cell? ⟨bt,LM+ti*2,none⟩=some (.slice ap t.params.length cp):=by rw [<- hpe];exact(gl (Nj 0 _ rfl)).2
 have y2:w.cell? ⟨bt,LM+ti*2+1,none⟩=some (.slice ar t.results.length cr):=by rw [<- hre];exact(gl (Nj 1 _ rfl)).2
 have HP:=V (show eg 1 fb (rI FX w) (.slice ap t.params.length cp) t.params by rw [<- hpe];exact hit.1.1);have HR:=V (show eg 1 fb (rI FX w) (.slice ar t.results.length cr) t.results by rw [<- hre];exact hit.1.2);have P4:=h.kf.lt;rw [gY]at hbt;clear Nj hit hpe hre h0;obtain⟨b,off,ci,h1,hci,hcim,Lm,KV⟩:=eg.at h.is.2.1 hx;obtain⟨af,cf,h2,Pq,hcfm⟩:=h.is.2.2.1.sl;have x1:w.cell? ⟨X,1,none⟩=some (.slice (some ⟨b,off,none⟩) m.imports.length ci):=by rw [<- h1];exact h.kf.cell 1
 have x2:w.cell? ⟨X,2,none⟩=some (.slice af m.funcs.length cf):=by rw [<- h2];exact h.kf.cell 2
 have y0:w.cell? ⟨b,off+i*3+2,none⟩=some (.int .i64 (ti:Int)):=by
  have:=KV 2 _ rfl;rw [<- hti];exact this
 have hS:uh X b (off+i*3+2) bt LM ti (.slice (some ⟨bt,LM,none⟩) m.types.length OG) (.slice (some ⟨b,off,none⟩) m.imports.length ci) (.slice af m.funcs.length cf) (.slice ap t.params.length cp) (.slice ar t.results.length cr) (ti:Int) w:=⟨x0,x1,x2,y0,y1,y2⟩;have HN:=V (show X < w.heap.size/\b < w.heap.size/\bt < w.heap.size from⟨P4,Lm,hbt⟩);have HIM:=V (show lM m (i:Int)=true by simp [lM];omega);have f1:decide (((i:Nat):Int) < 0)=false:=az (by omega);have f2:decide ((m.imports.length:Int)+(m.funcs.length:Int) <=(i:Int))=false:=az (by omega);have f3:decide (m.imports.length+m.funcs.length <=i)=false:=az (by omega);clear x0 x1 x2 y0 y1 y2 KV h1 h2 hx ht hti Lm P4 hbt;have KW:=(an w.heap.size w).alloc (ag _) (.cells #[.slice none 0 0, .slice none 0 0] 109);have HX:=V (eG.new w #[.slice none 0 0, .slice none 0 0] 109).drew;have HB:=V KW.drew;have HI:=V (jG (w.alloc (.cells #[.slice none 0 0, .slice none 0 0] 109)).drew FX X iv m (h.below KW.drew) ((i:Nat):Int));have hS1:=hS.keeps (dU.dW (S:=fun _=>False) KW.drew) (fun _ h=>h.elim);clear KW hS h;go_enter func41,ntmps41;go_wp2_with fail;refine ef (uh X b (off+i*3+2) bt LM ti (.slice (some ⟨bt,LM,none⟩) m.types.length OG) (.slice (some ⟨b,off,none⟩) m.imports.length ci) (.slice af m.funcs.length cf) (.slice ap t.params.length cp) (.slice ar t.results.length cr) (ti:Int)) (up 0 23 []) (by kernel_rfl) (by kernel_rfl) hS1 ?_;iterate 23 (first | (apply sk rfl rfl;simp only [pt]) | (apply dV rfl rfl rfl;·(rintro w' ⟨t0,t1,t2,t3,t4,t5⟩;go_wp2;exact⟨rfl,rfl,rfl⟩)))
 refine eL ?_;refine aD ?_;generalize(w.alloc (.cells #[.slice none 0 0, .slice none 0 0] 109)).drew=w1 at HX HB HI hS1⊢;go_wp2_with fail;refine(HI.out).mono ?_;rintro e w2 ⟨rfl,hb⟩;rw [HIM.out];replace HX:=V (HX.out.below hb HX.out.lt);replace HB:=V (HB.out.trans (hb.mono HB.out.size));have Qh:uh X b (off+i*3+2) bt LM ti (.slice (some ⟨bt,LM,none⟩) m.types.length OG) (.slice (some ⟨b,off,none⟩) m.imports.length ci) (.slice af m.funcs.length cf) (.slice ap t.params.length cp) (.slice ar t.results.length cr) (ti:Int) w2.drew:=(hS1.keeps (dU.dW (S:=fun _=>False) hb) (fun _ h=>h.elim)).keeps (dU.dW (S:=fun _=>False) (an _ _).drew) (fun _ h=>h.elim);have HXD:=V HX.out.drew;have Pw:=V HB.out.drew;clear hb hS1 HI f1 f2 f3;go_wp2_with fail;refine ef (uh X b (off+i*3+2) bt LM ti (.slice (some ⟨bt,LM,none⟩) m.types.length OG) (.slice (some ⟨b,off,none⟩) m.imports.length ci) (.slice af m.funcs.length cf) (.slice ap t.params.length cp) (.slice ar t.results.length cr) (ti:Int)) (up 0 16 ((16,false)::(17,true)::[])) (by kernel_rfl) (by kernel_rfl) Qh ?_;generalize w2.drew=w3 at HXD Pw Qh⊢;iterate 16 (first | (apply sk rfl rfl;simp only [pt]) | (apply dV rfl rfl rfl;·(rintro w' ⟨t0,t1,t2,t3,t4,t5⟩;go_wp2;exact⟨rfl,rfl,rfl⟩)))
 refine ed rfl rfl ?_;obtain⟨x0,x1,z0,z1⟩:=HXD.out.two;go_wp2_with fail;have Kz:=fF w3 w.heap.size (.slice ap t.params.length cp) (.slice ar t.results.length cr);refine⟨Qh.keeps Kz (fun g hg=> .inr (by have:=HN.out;omega)),?_⟩;have NV:=HXD.out.mP (.slice ap t.params.length cp) (.slice ar t.results.length cr);have HL:=V NV.kQ;have MX:=V (Pw.out.trans (Kz.below Pw.out.size (fun i hi=>by omega)));clear Kz NV x0 x1 z0 z1 Qh;iterate 1 (first | (apply sk rfl rfl;simp only [pt]) | (apply dV rfl rfl rfl;·(rintro w' ⟨t0,t1,t2,t3,t4,t5⟩;go_wp2;exact⟨rfl,rfl,rfl⟩)))
 refine eL ?_;refine aD ?_;go_wp2_with fail;refine aM (fe rfl _ _ rfl HL.out) rfl ?_;exact⟨_,_,rfl,HP.out.ext (jH MX.out),HR.out.ext (jH MX.out),MX.out⟩
theorem FK (w:World) (FX:Nat ->Bool) (X:Nat) (iv:pG) (m:ez) (h:jg w FX X iv m) (i ti:Nat) (t:gr) (hx:m.funcs[i]?=some (ti:Int)) (ht:m.types[ti]?=some t) (f:Int) (hf:f=((m.imports.length+i:Nat):Int)) (hk:m.imports.length+m.funcs.length <=100000):
  Calls prog 41 #[.pointer (some ⟨X,0,none⟩), .int .i64 f] w (AJ FX t w):=by
 subst hf;have hil:=(aN.1 hx).1;obtain⟨bt,LM,OG,ut,h0,hcapt,hcmt,hbt,Nj,hit⟩:=ee.at h.mod.1 ht;obtain⟨ap,cp,hpe,-,-⟩:=hit.1.1.sl;obtain⟨ar,cr,hre,-,-⟩:=hit.1.2.sl;have htl:=(aN.1 ht).1;have x0:w.cell? ⟨X,0,none⟩=some (.slice (some ⟨bt,LM,none⟩) m.types.length OG):=by rw [<- h0];exact h.kf.cell 0
 have y1:w.cell? ⟨bt,LM+ti*2,none⟩=some (.slice ap t.params.length cp):=by rw [<- hpe];exact(gl (Nj 0 _ rfl)).2
 have y2:w.cell? ⟨bt,LM+ti*2+1,none⟩=some (.slice ar t.results.length cr):=by rw [<- hre];exact(gl (Nj 1 _ rfl)).2
 have HP:=V (show eg 1 fb (rI FX w) (.slice ap t.params.length cp) t.params by rw [<- hpe];exact hit.1.1);have HR:=V (show eg 1 fb (rI FX w) (.slice ar t.results.length cr) t.results by rw [<- hre];exact hit.1.2);have P4:=h.kf.lt;rw [gY]at hbt;clear Nj hit hpe hre h0;obtain⟨b,off,cf,h2,Pq,hcfm,Lm,KV⟩:=eg.at h.is.2.2.1 hx;obtain⟨ai,ci,h1,hci,hcim⟩:=h.is.2.1.sl;have x1:w.cell? ⟨X,1,none⟩=some (.slice ai m.imports.length ci):=by rw [<- h1];exact h.kf.cell 1
 have x2:w.cell? ⟨X,2,none⟩=some (.slice (some ⟨b,off,none⟩) m.funcs.length cf):=by rw [<- h2];exact h.kf.cell 2
 have y0:w.cell? ⟨b,off+i,none⟩=some (.int .i64 (ti:Int)):=by
  have:=KV 0 _ rfl
  rwa [bo,aL]at this
 have hS:uh X b (off+i) bt LM ti (.slice (some ⟨bt,LM,none⟩) m.types.length OG) (.slice ai m.imports.length ci) (.slice (some ⟨b,off,none⟩) m.funcs.length cf) (.slice ap t.params.length cp) (.slice ar t.results.length cr) (ti:Int) w:=⟨x0,x1,x2,y0,y1,y2⟩;have HN:=V (show X < w.heap.size/\b < w.heap.size/\bt < w.heap.size from⟨P4,Lm,hbt⟩);have HIM:=V (show lM m ((m.imports.length+i:Nat):Int)=false by simp [lM];omega);have f1:decide (((m.imports.length+i:Nat):Int) < 0)=false:=az (by omega);have f2:decide ((m.imports.length:Int)+(m.funcs.length:Int) <=(m.imports.length:Int)+(i:Int))=false:=az (by omega);have f3:decide (m.imports.length+m.funcs.length <=m.imports.length+i)=false:=az (by omega);clear x0 x1 x2 y0 y1 y2 KV h1 h2 hx ht Lm P4 hbt;have KW:=(an w.heap.size w).alloc (ag _) (.cells #[.slice none 0 0, .slice none 0 0] 109);have HX:=V (eG.new w #[.slice none 0 0, .slice none 0 0] 109).drew;have HB:=V KW.drew;have HI:=V (jG (w.alloc (.cells #[.slice none 0 0, .slice none 0 0] 109)).drew FX X iv m (h.below KW.drew) ((m.imports.length+i:Nat):Int));have hS1:=hS.keeps (dU.dW (S:=fun _=>False) KW.drew) (fun _ h=>h.elim);clear KW hS h;go_enter func41,ntmps41;go_wp2_with fail;refine ef (uh X b (off+i) bt LM ti (.slice (some ⟨bt,LM,none⟩) m.types.length OG) (.slice ai m.imports.length ci) (.slice (some ⟨b,off,none⟩) m.funcs.length cf) (.slice ap t.params.length cp) (.slice ar t.results.length cr) (ti:Int)) (up 0 23 []) (by kernel_rfl) (by kernel_rfl) hS1 ?_;iterate 23 (first | (apply sk rfl rfl;simp only [pt]) | (apply dV rfl rfl rfl;·(rintro w' ⟨t0,t1,t2,t3,t4,t5⟩;go_wp2;exact⟨rfl,rfl,rfl⟩)))
 refine eL ?_;refine aD ?_;generalize(w.alloc (.cells #[.slice none 0 0, .slice none 0 0] 109)).drew=w1 at HX HB HI hS1⊢;go_wp2_with fail;refine(HI.out).mono ?_;rintro e w2 ⟨rfl,hb⟩;rw [HIM.out];replace HX:=V (HX.out.below hb HX.out.lt);replace HB:=V (HB.out.trans (hb.mono HB.out.size));have Qh:uh X b (off+i) bt LM ti (.slice (some ⟨bt,LM,none⟩) m.types.length OG) (.slice ai m.imports.length ci) (.slice (some ⟨b,off,none⟩) m.funcs.length cf) (.slice ap t.params.length cp) (.slice ar t.results.length cr) (ti:Int) w2.drew:=(hS1.keeps (dU.dW (S:=fun _=>False) hb) (fun _ h=>h.elim)).keeps (dU.dW (S:=fun _=>False) (an _ _).drew) (fun _ h=>h.elim);have HXD:=V HX.out.drew;have Pw:=V HB.out.drew;clear hb hS1 HI f1 f2 f3;go_wp2_with fail;refine ef (uh X b (off+i) bt LM ti (.slice (some ⟨bt,LM,none⟩) m.types.length OG) (.slice ai m.imports.length ci) (.slice (some ⟨b,off,none⟩) m.funcs.length cf) (.slice ap t.params.length cp) (.slice ar t.results.length cr) (ti:Int)) (up 0 22 ((22,false)::(23,true)::[])) (by kernel_rfl) (by kernel_rfl) Qh ?_;generalize w2.drew=w3 at HXD Pw Qh⊢;iterate 22 (first | (apply sk rfl rfl;simp only [pt]) | (apply dV rfl rfl rfl;·(rintro w' ⟨t0,t1,t2,t3,t4,t5⟩;go_wp2;exact⟨rfl,rfl,rfl⟩)))
 refine ed rfl rfl ?_;obtain⟨x0,x1,z0,z1⟩:=HXD.out.two;go_wp2_with fail;have Kz:=fF w3 w.heap.size (.slice ap t.params.length cp) (.slice ar t.results.length cr);refine⟨Qh.keeps Kz (fun g hg=> .inr (by have:=HN.out;omega)),?_⟩;have NV:=HXD.out.mP (.slice ap t.params.length cp) (.slice ar t.results.length cr);have HL:=V NV.kQ;have MX:=V (Pw.out.trans (Kz.below Pw.out.size (fun i hi=>by omega)));clear Kz NV x0 x1 z0 z1 Qh;iterate 1 (first | (apply sk rfl rfl;simp only [pt]) | (apply dV rfl rfl rfl;·(rintro w' ⟨t0,t1,t2,t3,t4,t5⟩;go_wp2;exact⟨rfl,rfl,rfl⟩)))
 refine eL ?_;refine aD ?_;go_wp2_with fail;refine aM (fe rfl _ _ rfl HL.out) rfl ?_;exact⟨_,_,rfl,HP.out.ext (jH MX.out),HR.out.ext (jH MX.out),MX.out⟩
end Go.Proofs.YthbjdhjppbcneaaGreatDoor
